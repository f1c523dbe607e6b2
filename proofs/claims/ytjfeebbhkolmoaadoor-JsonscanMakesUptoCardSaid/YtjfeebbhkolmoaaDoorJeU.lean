/- Chapter 9 of the program: the first code point of a text, whether it is one (for seat json). -/
import Derived.Test.YtjfeebbhkolmoaaDoorRows
import Derived.Test.YtjfeebbhkolmoaaDoorNum
import Derived.Test.YtjfeebbhkolmoaaDoorMem
import Derived.Test.YtjfeebbhkolmoaaDoorJs0
import Derived.WalkKit
import Derived.WalkLawsBesides
import Derived.WalkSpells
import Derived.ProofKit
import Derived.Outline
import Derived.Lib.Hide
import Derived.Laws.BitsAllLaws
namespace Go.Proofs.YtjfeebbhkolmoaaDoor.E
open Go.RowKit
set_option linter.unusedVariables false

section
open Go.RowKit
/-- the byte at a place; 256: there is none -/
def bt (s : ByteArray) (i : Nat) : Nat := if h : i < s.size then s[i].toNat else 256
theorem bt_in {s : ByteArray} {i : Nat} (h : i < s.size) : bt s i = s[i].toNat := by unfold bt; rw [dif_pos h]
theorem bt_out {s : ByteArray} {i : Nat} (h : s.size ≤ i) : bt s i = 256 := by unfold bt; rw [dif_neg (by omega)]
theorem bt_lt {s : ByteArray} {i : Nat} (h : i < s.size) : bt s i < 256 := by rw [bt_in h]; exact UInt8.toNat_lt _
theorem bt_le (s : ByteArray) (i : Nat) : bt s i ≤ 256 := by
  by_cases h : i < s.size
  · have := bt_lt h; omega
  · rw [bt_out (by omega)]; omega
/-- a byte that goes on -/
def cont (c : Nat) : Bool := decide (128 ≤ c ∧ c < 192)
theorem and_192 : ∀ c : Nat, c < 256 → ((c &&& 192) != 128) = !cont c := by decide +kernel
theorem and_63 : ∀ c : Nat, c < 256 → cont c = true → c &&& 63 = c - 128 := by decide +kernel
theorem and_224 : ∀ c : Nat, c < 256 → ((c &&& 224) == 192) = decide (192 ≤ c ∧ c < 224) := by decide +kernel
theorem and_240 : ∀ c : Nat, c < 256 → ((c &&& 240) == 224) = decide (224 ≤ c ∧ c < 240) := by decide +kernel
theorem and_248 : ∀ c : Nat, c < 256 → ((c &&& 248) == 240) = decide (240 ≤ c ∧ c < 248) := by decide +kernel
theorem and_31 : ∀ c : Nat, c < 256 → 192 ≤ c → c < 224 → c &&& 31 = c - 192 := by decide +kernel
theorem and_15 : ∀ c : Nat, c < 256 → 224 ≤ c → c < 240 → c &&& 15 = c - 224 := by decide +kernel
theorem and_7 : ∀ c : Nat, c < 256 → 240 ≤ c → c < 248 → c &&& 7 = c - 240 := by decide +kernel
theorem ofInt_i32 (a : Nat) (ha : a < 2147483648) : (BitVec.ofInt 32 (a : Int)).toNat = a := by
  rw [BitVec.ofInt_natCast, BitVec.toNat_ofNat]; exact Nat.mod_eq_of_lt (by omega)
theorem i32_or_nat (a b : Nat) (ha : a < 2147483648) (hb : b < 2147483648) : bits .or .i32 (a : Int) (b : Int) = ((a ||| b : Nat) : Int) := by
  have hx : a ||| b < 2 ^ 31 := Nat.or_lt_two_pow (by omega) (by omega)
  show IntKind.i32.wrap ((BitVec.ofInt 32 (a : Int) ||| BitVec.ofInt 32 (b : Int)).toNat : Int) = _
  rw [BitVec.toNat_or, ofInt_i32 a ha, ofInt_i32 b hb, IntKind.wrap_i32]
  omega
theorem i32_join (a b : Nat) (ha : a < 33554432) (hb : b < 64) : bits .or .i32 (a * 64 : Int) (b : Int) = (a : Int) * 64 + b := by
  have h := i32_or_nat (a * 64) b (by omega) (by omega)
  rw [show ((a * 64 : Nat) : Int) = (a : Int) * 64 from by omega] at h
  rw [h, nat_join 6 (a * 64) b (by omega) (by omega)]
  omega
/-- follow's answer -/
def folN (c : Nat) : Nat := if cont c = true then c - 128 else 0
theorem follow_any (s : ByteArray) (i : Nat) (w : World) :
    Calls Tryd.prog 80 #[.string s, .int .i64 i] w fun e w' => e = .returned (.tuple #[.int .i32 (folN (bt s i)), .bool (cont (bt s i))]) ∧ w = w' := by
  by_cases hi : i < s.size
  · have hc := bt_lt hi
    have e1 : bits .and .u8 ((s[i].toNat : Nat) : Int) 192 = ((bt s i &&& 192 : Nat) : Int) := by rw [← bt_in hi]; exact u8_and_nat _ 192 hc (by omega)
    have e2 : bits .and .u8 ((s[i].toNat : Nat) : Int) 63 = ((bt s i &&& 63 : Nat) : Int) := by rw [← bt_in hi]; exact u8_and_nat _ 63 hc (by omega)
    have e3 : ((((bt s i &&& 192 : Nat) : Int)) != 128) = !cont (bt s i) := by
      rw [← and_192 _ hc, Bool.eq_iff_iff, bne_iff_ne, bne_iff_ne]; omega
    by_cases hk : cont (bt s i) = true
    · have e4 := and_63 _ hc hk
      have H : Hid (folN (bt s i) = bt s i - 128) := Lib.hid (by unfold folN; rw [if_pos hk])
      rw [e4] at e2
      have HK := Lib.hid hk
      rw [hk] at e3
      have e5 : wrap32 ((bt s i - 128 : Nat) : Int) = ((bt s i - 128 : Nat) : Int) := by unfold wrap32; omega
      clear hk e4
      go_enter Tryd.func80, Tryd.ntmps80
      go_wp2_with fail
      go_ret2
      exact ⟨by rw [H.out, HK.out] <;> rfl, rfl⟩
    · have hk' : cont (bt s i) = false := by simpa using hk
      have H : Hid (folN (bt s i) = 0) := Lib.hid (by unfold folN; rw [if_neg hk])
      have HK := Lib.hid hk'
      rw [hk'] at e3
      clear hk hk' e2
      go_enter Tryd.func80, Tryd.ntmps80
      go_wp2_with fail
      go_ret2
      exact ⟨by rw [H.out, HK.out] <;> rfl, rfl⟩
  · have hb := bt_out (show s.size ≤ i by omega)
    rw [hb]
    have hi' : s.size ≤ i := by omega
    go_enter Tryd.func80, Tryd.ntmps80
    go_wp2_with fail
    go_ret2
    exact ⟨rfl, rfl⟩
/-- is it a code point? (of a number that is not below 0) -/
def isPt (r : Nat) : Bool := decide (r ≤ 1114111 ∧ (r < 55296 ∨ 57343 < r))
theorem point_any (r : Nat) (w : World) :
    Calls Tryd.prog 81 #[.int .i32 r] w fun e w' => e = .returned (.bool (isPt r)) ∧ w = w' := by
  have H : Hid (isPt r = (decide ((r : Int) ≤ 1114111) && (decide ((r : Int) < 55296) || decide ((r : Int) > 57343)))) := Lib.hid (by
    unfold isPt; rw [Bool.eq_iff_iff]; simp; omega)
  have h0 : 0 ≤ (r : Int) := by omega
  by_cases h1 : (r : Int) ≤ 1114111
  · have d1 : decide ((r : Int) ≤ 1114111) = true := decide_eq_true h1
    rw [d1] at H
    by_cases h2 : (r : Int) < 55296
    · have d2 : decide ((r : Int) < 55296) = true := decide_eq_true h2
      rw [d2] at H
      go_enter Tryd.func81, Tryd.ntmps81
      go_wp2_with fail
      go_ret
      exact ⟨by rw [H.out] <;> rfl, rfl⟩
    · have d2 : decide ((r : Int) < 55296) = false := decide_eq_false h2
      rw [d2] at H
      have h2' : 55296 ≤ (r : Int) := by omega
      clear h2
      go_enter Tryd.func81, Tryd.ntmps81
      go_wp2_with fail
      go_ret
      exact ⟨by rw [H.out] <;> rfl, rfl⟩
  · have d1 : decide ((r : Int) ≤ 1114111) = false := decide_eq_false h1
    rw [d1] at H
    have h1' : 1114111 < (r : Int) := by omega
    clear h1
    go_enter Tryd.func81, Tryd.ntmps81
    go_wp2_with fail
    go_ret
    exact ⟨by rw [H.out] <;> rfl, rfl⟩
end
section
open Go.RowKit
def loB (c : Nat) : Nat := if c = 224 then 160 else if c = 240 then 144 else 128
def hiB (c : Nat) : Nat := if c = 237 then 159 else if c = 244 then 143 else 191
/-- how many bytes the code point's encoding at a place has; 0: none stands there -/
def nx (b : Nat → Nat) (i : Nat) : Nat :=
  if b i < 128 then 1
  else if 194 ≤ b i ∧ b i < 224 then (if cont (b (i + 1)) = true then 2 else 0)
  else if 224 ≤ b i ∧ b i < 240 then (if (loB (b i) ≤ b (i + 1) ∧ b (i + 1) ≤ hiB (b i)) ∧ cont (b (i + 2)) = true then 3 else 0)
  else if 240 ≤ b i ∧ b i < 245 then (if (loB (b i) ≤ b (i + 1) ∧ b (i + 1) ≤ hiB (b i)) ∧ cont (b (i + 2)) = true ∧ cont (b (i + 3)) = true then 4 else 0)
  else 0
theorem nx_le (b : Nat → Nat) (i : Nat) : nx b i ≤ 4 := by
  unfold nx
  repeat' split
  all_goals omega
def racc (b : Nat → Nat) (i r0 : Nat) : Nat → Nat
  | 0 => r0
  | m + 1 => racc b i r0 m * 64 + (b (i + 1 + m) - 128)
def FirstPost (b : Nat → Nat) (i : Nat) (w : World) (e : Ending) (w' : World) : Prop :=
  ∃ r : Nat, e = .returned (.tuple #[.int .i32 r, .int .i64 (nx b i), .bool (nx b i != 0)]) ∧ w = w'
theorem first_out {b : Nat → Nat} {i n : Nat} {w w' : World} {e : Ending} (hn : nx b i = n) (r : Nat) (h : e = .returned (.tuple #[.int .i32 r, .int .i64 n, .bool (n != 0)])) (hw : w = w') : FirstPost b i w e w' := ⟨r, by rw [hn]; exact h, hw⟩
def FRel (b : Nat → Nat) (i r0 n : Nat) (w : World) (v4 v5 v9 : Value) (wr : World) : Prop :=
  ∃ m : Nat, m + 1 ≤ n ∧ v9 = .int .i64 ((m + 1 : Nat) : Int) ∧ v5 = .int .i64 n ∧ v4 = .int .i32 (racc b i r0 m : Nat) ∧ racc b i r0 m < 32 * 64 ^ m ∧ (∀ t, t < m → cont (b (i + 1 + t)) = true) ∧ w = wr
theorem cont_iff (c : Nat) : cont c = true ↔ 128 ≤ c ∧ c < 192 := by unfold cont; exact decide_eq_true_iff
theorem pt_iff (r : Nat) : isPt r = true ↔ r ≤ 1114111 ∧ (r < 55296 ∨ 57343 < r) := by unfold isPt; exact decide_eq_true_iff
theorem nx2 (b : Nat → Nat) (i : Nat) (h1 : 192 ≤ b i) (h2 : b i < 224) (hc : cont (b (i + 1)) = true) : nx b i = if racc b i (b i - 192) 1 < 128 ∨ isPt (racc b i (b i - 192) 1) = false then 0 else 2 := by
  have e : racc b i (b i - 192) 1 = (b i - 192) * 64 + (b (i + 1) - 128) := rfl
  rw [e]
  have g := (cont_iff _).1 hc
  unfold nx
  rw [if_neg (by omega)]
  have hp : isPt ((b i - 192) * 64 + (b (i + 1) - 128)) = true := (pt_iff _).2 (by omega)
  rw [hp]
  by_cases h : 194 ≤ b i
  · rw [if_pos ⟨h, h2⟩, if_pos hc, if_neg (by simp; omega)]
  · rw [if_neg (by omega), if_neg (by omega), if_neg (by omega), if_pos (by left; omega)]
theorem nx2n (b : Nat → Nat) (i : Nat) (h1 : 192 ≤ b i) (h2 : b i < 224) (hc : cont (b (i + 1)) = false) : nx b i = 0 := by
  unfold nx
  rw [if_neg (by omega), hc]
  by_cases h : 194 ≤ b i
  · rw [if_pos ⟨h, h2⟩]; rfl
  · rw [if_neg (by omega), if_neg (by omega), if_neg (by omega)]
theorem lo_le (c d : Nat) : loB c ≤ d ↔ (c = 224 → 160 ≤ d) ∧ (c = 240 → 144 ≤ d) ∧ 128 ≤ d := by
  unfold loB
  by_cases h : c = 224
  · subst h; simp; omega
  · rw [if_neg h]
    by_cases g : c = 240
    · subst g; simp; omega
    · rw [if_neg g]; omega
theorem hi_le (c d : Nat) : d ≤ hiB c ↔ (c = 237 → d ≤ 159) ∧ (c = 244 → d ≤ 143) ∧ d ≤ 191 := by
  unfold hiB
  by_cases h : c = 237
  · subst h; simp; omega
  · rw [if_neg h]
    by_cases g : c = 244
    · subst g; simp; omega
    · rw [if_neg g]; omega
theorem pt_not (r : Nat) : isPt r = false ↔ ¬ (r ≤ 1114111 ∧ (r < 55296 ∨ 57343 < r)) := by
  rw [← pt_iff]; simp
theorem nx3 (b : Nat → Nat) (i : Nat) (h1 : 224 ≤ b i) (h2 : b i < 240) (hc : cont (b (i + 1)) = true) (hd : cont (b (i + 2)) = true) : nx b i = if racc b i (b i - 224) 2 < 2048 ∨ isPt (racc b i (b i - 224) 2) = false then 0 else 3 := by
  have e : racc b i (b i - 224) 2 = ((b i - 224) * 64 + (b (i + 1) - 128)) * 64 + (b (i + 2) - 128) := rfl
  rw [e]
  have g := (cont_iff _).1 hc
  have g2 := (cont_iff _).1 hd
  unfold nx
  rw [if_neg (by omega), if_neg (by omega), if_pos ⟨h1, h2⟩, hd]
  have L := lo_le (b i) (b (i + 1))
  have H := hi_le (b i) (b (i + 1))
  have P := pt_not (((b i - 224) * 64 + (b (i + 1) - 128)) * 64 + (b (i + 2) - 128))
  by_cases q : loB (b i) ≤ b (i + 1) ∧ b (i + 1) ≤ hiB (b i)
  · rw [if_pos ⟨q, rfl⟩, if_neg]
    rintro (k | k)
    · omega
    · have := P.1 k; omega
  · rw [if_neg (fun k => q k.1), if_pos]
    by_cases k : ((b i - 224) * 64 + (b (i + 1) - 128)) * 64 + (b (i + 2) - 128) < 2048
    · exact Or.inl k
    · exact Or.inr (P.2 (by omega))
theorem nx3n (b : Nat → Nat) (i : Nat) (h1 : 224 ≤ b i) (h2 : b i < 240) (hc : cont (b (i + 1)) = false ∨ cont (b (i + 2)) = false) : nx b i = 0 := by
  unfold nx
  rw [if_neg (by omega), if_neg (by omega), if_pos ⟨h1, h2⟩, if_neg]
  rw [lo_le, hi_le]
  rintro ⟨⟨k1, k2⟩, k3⟩
  rcases hc with hc | hc
  · rw [(cont_iff _).2 (by omega)] at hc; cases hc
  · rw [hc] at k3; cases k3
theorem nx4 (b : Nat → Nat) (i : Nat) (h1 : 240 ≤ b i) (h2 : b i < 248) (hc : cont (b (i + 1)) = true) (hd : cont (b (i + 2)) = true) (he : cont (b (i + 3)) = true) : nx b i = if racc b i (b i - 240) 3 < 65536 ∨ isPt (racc b i (b i - 240) 3) = false then 0 else 4 := by
  have e : racc b i (b i - 240) 3 = (((b i - 240) * 64 + (b (i + 1) - 128)) * 64 + (b (i + 2) - 128)) * 64 + (b (i + 3) - 128) := rfl
  rw [e]
  have g := (cont_iff _).1 hc
  have g2 := (cont_iff _).1 hd
  have g3 := (cont_iff _).1 he
  unfold nx
  rw [if_neg (by omega), if_neg (by omega), if_neg (by omega), hd, he]
  have L := lo_le (b i) (b (i + 1))
  have H := hi_le (b i) (b (i + 1))
  generalize hr : (((b i - 240) * 64 + (b (i + 1) - 128)) * 64 + (b (i + 2) - 128)) * 64 + (b (i + 3) - 128) = r
  have P := pt_not r
  by_cases q1 : 240 ≤ b i ∧ b i < 245
  · rw [if_pos q1]
    by_cases q : loB (b i) ≤ b (i + 1) ∧ b (i + 1) ≤ hiB (b i)
    · rw [if_pos ⟨q, rfl, rfl⟩, if_neg]
      rintro (k | k)
      · omega
      · have := P.1 k; omega
    · rw [if_neg (fun k => q k.1), if_pos]
      by_cases k : r < 65536
      · exact Or.inl k
      · exact Or.inr (P.2 (by omega))
  · rw [if_neg q1, if_pos (Or.inr (P.2 (by omega)))]
theorem nx4n (b : Nat → Nat) (i : Nat) (h1 : 240 ≤ b i) (hc : cont (b (i + 1)) = false ∨ cont (b (i + 2)) = false ∨ cont (b (i + 3)) = false) : nx b i = 0 := by
  unfold nx
  rw [if_neg (by omega), if_neg (by omega), if_neg (by omega)]
  split
  · rw [if_neg]
    rw [lo_le, hi_le]
    rintro ⟨⟨k1, k2⟩, k3, k4⟩
    rcases hc with hc | hc | hc
    · rw [(cont_iff _).2 (by omega)] at hc; cases hc
    · rw [hc] at k3; cases k3
    · rw [hc] at k4; cases k4
  · rfl
theorem nx1n (b : Nat → Nat) (i : Nat) (h1 : 128 ≤ b i) (h2 : b i < 192 ∨ 248 ≤ b i) : nx b i = 0 := by
  unfold nx
  rw [if_neg (by omega), if_neg (by omega), if_neg (by omega), if_neg (by omega)]
end
section
open Go.RowKit
theorem w64 (n : Int) (h0 : 0 ≤ n) (h : n < 9223372036854775808) : wrap64 n = n := by
  unfold wrap64
  omega
theorem band {c : Nat} (hc : c < 256) (m : Nat) (hm : m < 256) : bits .and .u8 (c : Int) (m : Int) = ((c &&& m : Nat) : Int) := u8_and_nat c m hc hm
theorem beq_nat (a b : Nat) : (((a : Nat) : Int) == (b : Int)) = (a == b) := by
  rw [Bool.eq_iff_iff, beq_iff_eq, beq_iff_eq]; omega
theorem racc_succ (b : Nat → Nat) (i r0 m : Nat) : racc b i r0 (m + 1) = racc b i r0 m * 64 + (b (i + 1 + m) - 128) := rfl
set_option maxRecDepth 100000 in
theorem first_one (s : ByteArray) (i : Nat) (hi : i < s.size) (h : bt s i < 128) (w : World) :
    Calls Tryd.prog 61 #[.string s, .int .i64 i] w (FirstPost (bt s) i w) := by
  have hn : nx (bt s) i = 1 := by unfold nx; rw [if_pos h]
  have HN := Lib.hid hn
  rw [bt_in hi] at h
  have h1 : (s[i].toNat : Int) < 128 := by omega
  have h3 : ¬ s.size ≤ i := by omega
  have h0 : 0 ≤ (i : Int) := by omega
  clear hn h
  go_enter Tryd.func61, Tryd.ntmps61
  go_wp2_with fail
  go_ret3
  exact first_out HN.out (s[i].toNat) (by rfl) rfl
set_option maxRecDepth 100000 in
theorem first_bad (s : ByteArray) (i : Nat) (hi : i < s.size) (h : 128 ≤ bt s i) (h' : bt s i < 192 ∨ 248 ≤ bt s i) (w : World) :
    Calls Tryd.prog 61 #[.string s, .int .i64 i] w (FirstPost (bt s) i w) := by
  have HN := Lib.hid (nx1n (bt s) i h h')
  have hc := bt_lt hi
  rw [bt_in hi] at h h' hc
  have q1 : (bits .and .u8 (s[i].toNat : Int) 224 == 192) = false := by
    rw [show (224 : Int) = ((224 : Nat) : Int) from rfl, band hc 224 (by omega), show (192 : Int) = ((192 : Nat) : Int) from rfl, beq_nat, and_224 _ hc]; exact decide_eq_false (by omega)
  have q2 : (bits .and .u8 (s[i].toNat : Int) 240 == 224) = false := by
    rw [show (240 : Int) = ((240 : Nat) : Int) from rfl, band hc 240 (by omega), show (224 : Int) = ((224 : Nat) : Int) from rfl, beq_nat, and_240 _ hc]; exact decide_eq_false (by omega)
  have q3 : (bits .and .u8 (s[i].toNat : Int) 248 == 240) = false := by
    rw [show (248 : Int) = ((248 : Nat) : Int) from rfl, band hc 248 (by omega), show (240 : Int) = ((240 : Nat) : Int) from rfl, beq_nat, and_248 _ hc]; exact decide_eq_false (by omega)
  have h1 : 128 ≤ (s[i].toNat : Int) := by omega
  have h3 : ¬ s.size ≤ i := by omega
  have h0 : 0 ≤ (i : Int) := by omega
  clear h h' hc
  go_enter Tryd.func61, Tryd.ntmps61
  go_wp2_with fail
  go_ret3
  exact first_out HN.out 0 (by rfl) rfl
set_option maxRecDepth 100000 in
set_option maxHeartbeats 1000000 in
theorem first_2 (s : ByteArray) (i : Nat) (hi : i < s.size) (hs : s.size ≤ 140737488355328) (h : 192 ≤ bt s i) (h' : bt s i < 224) (w : World) :
    Calls Tryd.prog 61 #[.string s, .int .i64 i] w (FirstPost (bt s) i w) := by
  have HY := Lib.hid (nx2 (bt s) i h h')
  have HX := Lib.hid (nx2n (bt s) i h h')
  have hc := bt_lt hi
  have HBI := Lib.hid (bt_in hi)
  obtain ⟨r0, hr0⟩ : ∃ r0, r0 = bt s i - 192 := ⟨_, rfl⟩
  rw [← hr0] at HY
  rw [bt_in hi] at h h' hc hr0
  have q1 : (bits .and .u8 (s[i].toNat : Int) 224 == 192) = true := by
    rw [show (224 : Int) = ((224 : Nat) : Int) from rfl, band hc 224 (by omega), show (192 : Int) = ((192 : Nat) : Int) from rfl, beq_nat, and_224 _ hc]; exact decide_eq_true (by omega)
  have e1 : bits .and .u8 (s[i].toNat : Int) 31 = (r0 : Int) := by
    rw [show (31 : Int) = ((31 : Nat) : Int) from rfl, band hc 31 (by omega), and_31 _ hc (by omega) (by omega), hr0]
  have r1 : r0 < 32 := by omega
  have e2 : wrap32 (r0 : Int) = (r0 : Int) := by unfold wrap32; omega
  have h1 : 128 ≤ (s[i].toNat : Int) := by omega
  have h3 : ¬ s.size ≤ i := by omega
  have h0 : 0 ≤ (i : Int) := by omega
  clear h h' hc hr0
  have hsi : (s.size : Int) ≤ 140737488355328 := by omega
  have SZ := Lib.hid hsi
  have HI := Lib.hid hi
  clear hs hsi
  go_enter Tryd.func61, Tryd.ntmps61
  go_wp2_with fail
  go_loopw [4, 5, 9] (fun v4 v5 v9 wr => FRel (bt s) i r0 2 w v4 v5 v9 wr) (fun _ _ v9 _ => 2 - (intOf v9).toNat)
  case atStart => exact ⟨0, by omega, rfl, rfl, rfl, by show r0 < 32 * 64 ^ 0; omega, fun t ht => absurd ht (by omega), rfl⟩
  case round =>
    obtain ⟨m, hm, rfl, rfl, rfl, hR, hk, rfl⟩ := hrel
    have HK := Lib.hid hk
    clear hk
    by_cases hlt : m + 1 < 2
    · have hp : 64 ^ m ≤ 64 ^ 2 := Nat.pow_le_pow_right (by decide) (by omega)
      have hR2 : racc (bt s) i r0 m < 131072 := by omega
      have HR := Lib.hid hR
      obtain ⟨kk, hkk⟩ : ∃ kk, kk = i + 1 + m := ⟨_, rfl⟩
      have wb : (i : Int) + ((m : Int) + 1) = (kk : Int) := by omega
      have kb : (kk : Int) < 9223372036854775808 := by have := SZ.out; have := HI.out; omega
      have k0 : 0 ≤ (kk : Int) := by omega
      have WA : Hid (wrap64 ((i : Int) + ((m : Int) + 1)) = (kk : Int)) := Lib.hid (by rw [wb]; exact w64 _ k0 kb)
      have WA2 : Hid (wrap64 (kk : Int) = (kk : Int)) := Lib.hid (w64 _ k0 kb)
      have WA3 : Hid (IntKind.i64.wrap (kk : Int) = (kk : Int)) := Lib.hid (IntWalk.i64_in _ (by omega))
      clear kb
      have HS : Hid (racc (bt s) i r0 (m + 1) = racc (bt s) i r0 m * 64 + (bt s kk - 128)) := Lib.hid (by rw [hkk]; exact racc_succ (bt s) i r0 m)
      have FA := follow_any s kk w
      by_cases hf : cont (bt s kk) = true
      · have hg := (cont_iff _).1 hf
        have hfo : folN (bt s kk) = bt s kk - 128 := by unfold folN; rw [if_pos hf]
        rw [hf, hfo] at FA
        have HF := Lib.hid (hkk ▸ hf)
        have FAH := Lib.hid FA
        have hR3 : racc (bt s) i r0 (m + 1) < 32 * 64 ^ (m + 1) := by rw [HS.out, Nat.pow_succ]; generalize 64 ^ m = z at *; omega
        have HR3 := Lib.hid hR3
        have hb1 : bt s kk - 128 < 64 := by omega
        have j1 := i32_join (racc (bt s) i r0 m) (bt s kk - 128) (by omega) hb1
        have w1 : wrap32 ((racc (bt s) i r0 m : Int) * 64) = (racc (bt s) i r0 m : Int) * 64 := by unfold wrap32; omega
        clear hf hg hfo FA hR3 hR hp hkk
        generalize bt s kk - 128 = y at *
        generalize racc (bt s) i r0 m = R at *
        have wa := WA.out
        have wa2 := WA2.out
        have wa3 := WA3.out
        go_wp2_with fail
        refine FAH.out.mono ?_
        rintro e w' ⟨rfl, rfl⟩
        go_wp2_with fail
        go_roundw
        case rel => exact ⟨m + 1, by omega, by go_num, rfl, by rw [HS.out] <;> go_num, HR3.out, fun t ht => by
          by_cases g : t < m
          · exact HK.out t g
          · obtain rfl : t = m := by omega
            exact HF.out, rfl⟩
        case measure => simp [intOf]; omega
      · have hf' : cont (bt s kk) = false := by simpa using hf
        have hfo : folN (bt s kk) = 0 := by unfold folN; rw [if_neg hf]
        rw [hf', hfo] at FA
        have FAH := Lib.hid FA
        have HN : Hid (nx (bt s) i = 0) := Lib.hid (HX.out (by
          rw [hkk] at hf'
          have hm' : m = 0 := by omega
          rcases hm' with rfl
          exact (by assumption)))
        clear hf hf' hfo FA hR hp hkk
        have wa := WA.out
        have wa2 := WA2.out
        have wa3 := WA3.out
        go_wp2_with fail
        refine FAH.out.mono ?_
        rintro e w' ⟨rfl, rfl⟩
        go_wp2_with fail
        go_ret3
        exact first_out HN.out 0 (by rfl) rfl
    · obtain rfl : m = 1 := by omega
      have hc1 := fun t ht => HK.out t ht
      have hN := HY.out (HK.out 0 (by omega))
      have HN := Lib.hid hN
      have PT := Lib.hid (point_any (racc (bt s) i r0 1))
      clear hc1 hN hR HK hlt hm
      generalize racc (bt s) i r0 1 = R at *
      by_cases hl : R < 128
      · have hl' : (R : Int) < 128 := by omega
        have HN2 : Hid (nx (bt s) i = 0) := Lib.hid (by rw [HN.out, if_pos (Or.inl hl)])
        clear hl
        go_wp2_with fail
        go_ret3
        exact first_out HN2.out 0 (by rfl) rfl
      · have hl' : decide ((R : Int) < 128) = false := decide_eq_false (by omega)
        by_cases hp : isPt R = true
        · have HN2 : Hid (nx (bt s) i = 2) := Lib.hid (by rw [HN.out, if_neg (by rw [hp]; simp; omega)])
          rw [hp] at PT
          clear hl hp
          go_wp2_with fail
          refine (PT.out _).mono ?_
          rintro e w' ⟨rfl, rfl⟩
          go_wp2_with fail
          go_ret3
          exact first_out HN2.out R (by rfl) rfl
        · have hp' : isPt R = false := by simpa using hp
          have HN2 : Hid (nx (bt s) i = 0) := Lib.hid (by rw [HN.out, if_pos (Or.inr hp')])
          rw [hp'] at PT
          clear hl hp hp'
          go_wp2_with fail
          refine (PT.out _).mono ?_
          rintro e w' ⟨rfl, rfl⟩
          go_wp2_with fail
          go_ret3
          exact first_out HN2.out 0 (by rfl) rfl
set_option maxRecDepth 100000 in
set_option maxHeartbeats 1000000 in
theorem first_3 (s : ByteArray) (i : Nat) (hi : i < s.size) (hs : s.size ≤ 140737488355328) (h : 224 ≤ bt s i) (h' : bt s i < 240) (w : World) :
    Calls Tryd.prog 61 #[.string s, .int .i64 i] w (FirstPost (bt s) i w) := by
  have HY := Lib.hid (nx3 (bt s) i h h')
  have HX := Lib.hid (nx3n (bt s) i h h')
  have hc := bt_lt hi
  have HBI := Lib.hid (bt_in hi)
  obtain ⟨r0, hr0⟩ : ∃ r0, r0 = bt s i - 224 := ⟨_, rfl⟩
  rw [← hr0] at HY
  rw [bt_in hi] at h h' hc hr0
  have q1 : (bits .and .u8 (s[i].toNat : Int) 224 == 192) = false := by
    rw [show (224 : Int) = ((224 : Nat) : Int) from rfl, band hc 224 (by omega), show (192 : Int) = ((192 : Nat) : Int) from rfl, beq_nat, and_224 _ hc]; exact decide_eq_false (by omega)
  have q2 : (bits .and .u8 (s[i].toNat : Int) 240 == 224) = true := by
    rw [show (240 : Int) = ((240 : Nat) : Int) from rfl, band hc 240 (by omega), show (224 : Int) = ((224 : Nat) : Int) from rfl, beq_nat, and_240 _ hc]; exact decide_eq_true (by omega)
  have e1 : bits .and .u8 (s[i].toNat : Int) 15 = (r0 : Int) := by
    rw [show (15 : Int) = ((15 : Nat) : Int) from rfl, band hc 15 (by omega), and_15 _ hc (by omega) (by omega), hr0]
  have r1 : r0 < 32 := by omega
  have e2 : wrap32 (r0 : Int) = (r0 : Int) := by unfold wrap32; omega
  have h1 : 128 ≤ (s[i].toNat : Int) := by omega
  have h3 : ¬ s.size ≤ i := by omega
  have h0 : 0 ≤ (i : Int) := by omega
  clear h h' hc hr0
  have hsi : (s.size : Int) ≤ 140737488355328 := by omega
  have SZ := Lib.hid hsi
  have HI := Lib.hid hi
  clear hs hsi
  go_enter Tryd.func61, Tryd.ntmps61
  go_wp2_with fail
  go_loopw [4, 5, 9] (fun v4 v5 v9 wr => FRel (bt s) i r0 3 w v4 v5 v9 wr) (fun _ _ v9 _ => 3 - (intOf v9).toNat)
  case atStart => exact ⟨0, by omega, rfl, rfl, rfl, by show r0 < 32 * 64 ^ 0; omega, fun t ht => absurd ht (by omega), rfl⟩
  case round =>
    obtain ⟨m, hm, rfl, rfl, rfl, hR, hk, rfl⟩ := hrel
    have HK := Lib.hid hk
    clear hk
    by_cases hlt : m + 1 < 3
    · have hp : 64 ^ m ≤ 64 ^ 2 := Nat.pow_le_pow_right (by decide) (by omega)
      have hR2 : racc (bt s) i r0 m < 131072 := by omega
      have HR := Lib.hid hR
      obtain ⟨kk, hkk⟩ : ∃ kk, kk = i + 1 + m := ⟨_, rfl⟩
      have wb : (i : Int) + ((m : Int) + 1) = (kk : Int) := by omega
      have kb : (kk : Int) < 9223372036854775808 := by have := SZ.out; have := HI.out; omega
      have k0 : 0 ≤ (kk : Int) := by omega
      have WA : Hid (wrap64 ((i : Int) + ((m : Int) + 1)) = (kk : Int)) := Lib.hid (by rw [wb]; exact w64 _ k0 kb)
      have WA2 : Hid (wrap64 (kk : Int) = (kk : Int)) := Lib.hid (w64 _ k0 kb)
      have WA3 : Hid (IntKind.i64.wrap (kk : Int) = (kk : Int)) := Lib.hid (IntWalk.i64_in _ (by omega))
      clear kb
      have HS : Hid (racc (bt s) i r0 (m + 1) = racc (bt s) i r0 m * 64 + (bt s kk - 128)) := Lib.hid (by rw [hkk]; exact racc_succ (bt s) i r0 m)
      have FA := follow_any s kk w
      by_cases hf : cont (bt s kk) = true
      · have hg := (cont_iff _).1 hf
        have hfo : folN (bt s kk) = bt s kk - 128 := by unfold folN; rw [if_pos hf]
        rw [hf, hfo] at FA
        have HF := Lib.hid (hkk ▸ hf)
        have FAH := Lib.hid FA
        have hR3 : racc (bt s) i r0 (m + 1) < 32 * 64 ^ (m + 1) := by rw [HS.out, Nat.pow_succ]; generalize 64 ^ m = z at *; omega
        have HR3 := Lib.hid hR3
        have hb1 : bt s kk - 128 < 64 := by omega
        have j1 := i32_join (racc (bt s) i r0 m) (bt s kk - 128) (by omega) hb1
        have w1 : wrap32 ((racc (bt s) i r0 m : Int) * 64) = (racc (bt s) i r0 m : Int) * 64 := by unfold wrap32; omega
        clear hf hg hfo FA hR3 hR hp hkk
        generalize bt s kk - 128 = y at *
        generalize racc (bt s) i r0 m = R at *
        have wa := WA.out
        have wa2 := WA2.out
        have wa3 := WA3.out
        go_wp2_with fail
        refine FAH.out.mono ?_
        rintro e w' ⟨rfl, rfl⟩
        go_wp2_with fail
        go_roundw
        case rel => exact ⟨m + 1, by omega, by go_num, rfl, by rw [HS.out] <;> go_num, HR3.out, fun t ht => by
          by_cases g : t < m
          · exact HK.out t g
          · obtain rfl : t = m := by omega
            exact HF.out, rfl⟩
        case measure => simp [intOf]; omega
      · have hf' : cont (bt s kk) = false := by simpa using hf
        have hfo : folN (bt s kk) = 0 := by unfold folN; rw [if_neg hf]
        rw [hf', hfo] at FA
        have FAH := Lib.hid FA
        have HN : Hid (nx (bt s) i = 0) := Lib.hid (HX.out (by
          rw [hkk] at hf'
          have hm' : m = 0 ∨ m = 1 := by omega
          rcases hm' with rfl | rfl
          all_goals first | exact Or.inl (by assumption) | exact Or.inr (by assumption) | exact Or.inr (Or.inl (by assumption)) | exact Or.inr (Or.inr (by assumption))))
        clear hf hf' hfo FA hR hp hkk
        have wa := WA.out
        have wa2 := WA2.out
        have wa3 := WA3.out
        go_wp2_with fail
        refine FAH.out.mono ?_
        rintro e w' ⟨rfl, rfl⟩
        go_wp2_with fail
        go_ret3
        exact first_out HN.out 0 (by rfl) rfl
    · obtain rfl : m = 2 := by omega
      have hc1 := fun t ht => HK.out t ht
      have hN := HY.out (HK.out 0 (by omega)) (HK.out 1 (by omega))
      have HN := Lib.hid hN
      have PT := Lib.hid (point_any (racc (bt s) i r0 2))
      clear hc1 hN hR HK hlt hm
      generalize racc (bt s) i r0 2 = R at *
      by_cases hl : R < 2048
      · have hl' : (R : Int) < 2048 := by omega
        have HN2 : Hid (nx (bt s) i = 0) := Lib.hid (by rw [HN.out, if_pos (Or.inl hl)])
        clear hl
        go_wp2_with fail
        go_ret3
        exact first_out HN2.out 0 (by rfl) rfl
      · have hl' : decide ((R : Int) < 2048) = false := decide_eq_false (by omega)
        by_cases hp : isPt R = true
        · have HN2 : Hid (nx (bt s) i = 3) := Lib.hid (by rw [HN.out, if_neg (by rw [hp]; simp; omega)])
          rw [hp] at PT
          clear hl hp
          go_wp2_with fail
          refine (PT.out _).mono ?_
          rintro e w' ⟨rfl, rfl⟩
          go_wp2_with fail
          go_ret3
          exact first_out HN2.out R (by rfl) rfl
        · have hp' : isPt R = false := by simpa using hp
          have HN2 : Hid (nx (bt s) i = 0) := Lib.hid (by rw [HN.out, if_pos (Or.inr hp')])
          rw [hp'] at PT
          clear hl hp hp'
          go_wp2_with fail
          refine (PT.out _).mono ?_
          rintro e w' ⟨rfl, rfl⟩
          go_wp2_with fail
          go_ret3
          exact first_out HN2.out 0 (by rfl) rfl
set_option maxRecDepth 100000 in
set_option maxHeartbeats 1000000 in
theorem first_4 (s : ByteArray) (i : Nat) (hi : i < s.size) (hs : s.size ≤ 140737488355328) (h : 240 ≤ bt s i) (h' : bt s i < 248) (w : World) :
    Calls Tryd.prog 61 #[.string s, .int .i64 i] w (FirstPost (bt s) i w) := by
  have HY := Lib.hid (nx4 (bt s) i h h')
  have HX := Lib.hid (nx4n (bt s) i h)
  have hc := bt_lt hi
  have HBI := Lib.hid (bt_in hi)
  obtain ⟨r0, hr0⟩ : ∃ r0, r0 = bt s i - 240 := ⟨_, rfl⟩
  rw [← hr0] at HY
  rw [bt_in hi] at h h' hc hr0
  have q1 : (bits .and .u8 (s[i].toNat : Int) 224 == 192) = false := by
    rw [show (224 : Int) = ((224 : Nat) : Int) from rfl, band hc 224 (by omega), show (192 : Int) = ((192 : Nat) : Int) from rfl, beq_nat, and_224 _ hc]; exact decide_eq_false (by omega)
  have q2 : (bits .and .u8 (s[i].toNat : Int) 240 == 224) = false := by
    rw [show (240 : Int) = ((240 : Nat) : Int) from rfl, band hc 240 (by omega), show (224 : Int) = ((224 : Nat) : Int) from rfl, beq_nat, and_240 _ hc]; exact decide_eq_false (by omega)
  have q3 : (bits .and .u8 (s[i].toNat : Int) 248 == 240) = true := by
    rw [show (248 : Int) = ((248 : Nat) : Int) from rfl, band hc 248 (by omega), show (240 : Int) = ((240 : Nat) : Int) from rfl, beq_nat, and_248 _ hc]; exact decide_eq_true (by omega)
  have e1 : bits .and .u8 (s[i].toNat : Int) 7 = (r0 : Int) := by
    rw [show (7 : Int) = ((7 : Nat) : Int) from rfl, band hc 7 (by omega), and_7 _ hc (by omega) (by omega), hr0]
  have r1 : r0 < 32 := by omega
  have e2 : wrap32 (r0 : Int) = (r0 : Int) := by unfold wrap32; omega
  have h1 : 128 ≤ (s[i].toNat : Int) := by omega
  have h3 : ¬ s.size ≤ i := by omega
  have h0 : 0 ≤ (i : Int) := by omega
  clear h h' hc hr0
  have hsi : (s.size : Int) ≤ 140737488355328 := by omega
  have SZ := Lib.hid hsi
  have HI := Lib.hid hi
  clear hs hsi
  go_enter Tryd.func61, Tryd.ntmps61
  go_wp2_with fail
  go_loopw [4, 5, 9] (fun v4 v5 v9 wr => FRel (bt s) i r0 4 w v4 v5 v9 wr) (fun _ _ v9 _ => 4 - (intOf v9).toNat)
  case atStart => exact ⟨0, by omega, rfl, rfl, rfl, by show r0 < 32 * 64 ^ 0; omega, fun t ht => absurd ht (by omega), rfl⟩
  case round =>
    obtain ⟨m, hm, rfl, rfl, rfl, hR, hk, rfl⟩ := hrel
    have HK := Lib.hid hk
    clear hk
    by_cases hlt : m + 1 < 4
    · have hp : 64 ^ m ≤ 64 ^ 2 := Nat.pow_le_pow_right (by decide) (by omega)
      have hR2 : racc (bt s) i r0 m < 131072 := by omega
      have HR := Lib.hid hR
      obtain ⟨kk, hkk⟩ : ∃ kk, kk = i + 1 + m := ⟨_, rfl⟩
      have wb : (i : Int) + ((m : Int) + 1) = (kk : Int) := by omega
      have kb : (kk : Int) < 9223372036854775808 := by have := SZ.out; have := HI.out; omega
      have k0 : 0 ≤ (kk : Int) := by omega
      have WA : Hid (wrap64 ((i : Int) + ((m : Int) + 1)) = (kk : Int)) := Lib.hid (by rw [wb]; exact w64 _ k0 kb)
      have WA2 : Hid (wrap64 (kk : Int) = (kk : Int)) := Lib.hid (w64 _ k0 kb)
      have WA3 : Hid (IntKind.i64.wrap (kk : Int) = (kk : Int)) := Lib.hid (IntWalk.i64_in _ (by omega))
      clear kb
      have HS : Hid (racc (bt s) i r0 (m + 1) = racc (bt s) i r0 m * 64 + (bt s kk - 128)) := Lib.hid (by rw [hkk]; exact racc_succ (bt s) i r0 m)
      have FA := follow_any s kk w
      by_cases hf : cont (bt s kk) = true
      · have hg := (cont_iff _).1 hf
        have hfo : folN (bt s kk) = bt s kk - 128 := by unfold folN; rw [if_pos hf]
        rw [hf, hfo] at FA
        have HF := Lib.hid (hkk ▸ hf)
        have FAH := Lib.hid FA
        have hR3 : racc (bt s) i r0 (m + 1) < 32 * 64 ^ (m + 1) := by rw [HS.out, Nat.pow_succ]; generalize 64 ^ m = z at *; omega
        have HR3 := Lib.hid hR3
        have hb1 : bt s kk - 128 < 64 := by omega
        have j1 := i32_join (racc (bt s) i r0 m) (bt s kk - 128) (by omega) hb1
        have w1 : wrap32 ((racc (bt s) i r0 m : Int) * 64) = (racc (bt s) i r0 m : Int) * 64 := by unfold wrap32; omega
        clear hf hg hfo FA hR3 hR hp hkk
        generalize bt s kk - 128 = y at *
        generalize racc (bt s) i r0 m = R at *
        have wa := WA.out
        have wa2 := WA2.out
        have wa3 := WA3.out
        go_wp2_with fail
        refine FAH.out.mono ?_
        rintro e w' ⟨rfl, rfl⟩
        go_wp2_with fail
        go_roundw
        case rel => exact ⟨m + 1, by omega, by go_num, rfl, by rw [HS.out] <;> go_num, HR3.out, fun t ht => by
          by_cases g : t < m
          · exact HK.out t g
          · obtain rfl : t = m := by omega
            exact HF.out, rfl⟩
        case measure => simp [intOf]; omega
      · have hf' : cont (bt s kk) = false := by simpa using hf
        have hfo : folN (bt s kk) = 0 := by unfold folN; rw [if_neg hf]
        rw [hf', hfo] at FA
        have FAH := Lib.hid FA
        have HN : Hid (nx (bt s) i = 0) := Lib.hid (HX.out (by
          rw [hkk] at hf'
          have hm' : m = 0 ∨ m = 1 ∨ m = 2 := by omega
          rcases hm' with rfl | rfl | rfl
          all_goals first | exact Or.inl (by assumption) | exact Or.inr (by assumption) | exact Or.inr (Or.inl (by assumption)) | exact Or.inr (Or.inr (by assumption))))
        clear hf hf' hfo FA hR hp hkk
        have wa := WA.out
        have wa2 := WA2.out
        have wa3 := WA3.out
        go_wp2_with fail
        refine FAH.out.mono ?_
        rintro e w' ⟨rfl, rfl⟩
        go_wp2_with fail
        go_ret3
        exact first_out HN.out 0 (by rfl) rfl
    · obtain rfl : m = 3 := by omega
      have hc1 := fun t ht => HK.out t ht
      have hN := HY.out (HK.out 0 (by omega)) (HK.out 1 (by omega)) (HK.out 2 (by omega))
      have HN := Lib.hid hN
      have PT := Lib.hid (point_any (racc (bt s) i r0 3))
      clear hc1 hN hR HK hlt hm
      generalize racc (bt s) i r0 3 = R at *
      by_cases hl : R < 65536
      · have hl' : (R : Int) < 65536 := by omega
        have HN2 : Hid (nx (bt s) i = 0) := Lib.hid (by rw [HN.out, if_pos (Or.inl hl)])
        clear hl
        go_wp2_with fail
        go_ret3
        exact first_out HN2.out 0 (by rfl) rfl
      · have hl' : decide ((R : Int) < 65536) = false := decide_eq_false (by omega)
        by_cases hp : isPt R = true
        · have HN2 : Hid (nx (bt s) i = 4) := Lib.hid (by rw [HN.out, if_neg (by rw [hp]; simp; omega)])
          rw [hp] at PT
          clear hl hp
          go_wp2_with fail
          refine (PT.out _).mono ?_
          rintro e w' ⟨rfl, rfl⟩
          go_wp2_with fail
          go_ret3
          exact first_out HN2.out R (by rfl) rfl
        · have hp' : isPt R = false := by simpa using hp
          have HN2 : Hid (nx (bt s) i = 0) := Lib.hid (by rw [HN.out, if_pos (Or.inr hp')])
          rw [hp'] at PT
          clear hl hp hp'
          go_wp2_with fail
          refine (PT.out _).mono ?_
          rintro e w' ⟨rfl, rfl⟩
          go_wp2_with fail
          go_ret3
          exact first_out HN2.out 0 (by rfl) rfl
theorem first_any (s : ByteArray) (i : Nat) (hi : i < s.size) (hs : s.size ≤ 140737488355328) (w : World) :
    Calls Tryd.prog 61 #[.string s, .int .i64 i] w (FirstPost (bt s) i w) := by
  by_cases h1 : bt s i < 128
  · exact first_one s i hi h1 w
  by_cases h2 : bt s i < 192
  · exact first_bad s i hi (by omega) (Or.inl h2) w
  by_cases h3 : bt s i < 224
  · exact first_2 s i hi hs (by omega) h3 w
  by_cases h4 : bt s i < 240
  · exact first_3 s i hi hs (by omega) h4 w
  by_cases h5 : bt s i < 248
  · exact first_4 s i hi hs (by omega) h5 w
  · exact first_bad s i hi (by omega) (Or.inr (by omega)) w
end
section

/-- so many bytes are to come behind a first one -/
def moreB (c : Nat) : Nat := if 240 ≤ c then 3 else if 224 ≤ c then 2 else 1
/-- byte by byte: f bytes are left, from place i on; so many of an encoding are due, the next within these ends -/
def runB (b : Nat → Nat) : Nat → Nat → Nat → Nat → Nat → Bool
  | 0, _, left, _, _ => left == 0
  | f + 1, i, left, lo, hi =>
    if left = 0 then
      if b i < 128 then runB b f (i + 1) 0 lo hi
      else if b i < 194 ∨ 244 < b i then false
      else runB b f (i + 1) (moreB (b i)) (loB (b i)) (hiB (b i))
    else if b i < lo ∨ hi < b i then false
    else runB b f (i + 1) (left - 1) 128 191
/-- code point by code point: the place of the first byte that begins none -/
def badF (b : Nat → Nat) (len : Nat) : Nat → Nat → Nat
  | 0, i => i
  | f + 1, i => if i < len then (if nx b i = 0 then i else badF b len f (i + nx b i)) else i
theorem run_due (b : Nat → Nat) (f i k lo hi : Nat) : runB b (f + 1) i (k + 1) lo hi = (decide (lo ≤ b i ∧ b i ≤ hi) && runB b f (i + 1) k 128 191) := by
  have e : runB b (f + 1) i (k + 1) lo hi = if k + 1 = 0 then _ else if b i < lo ∨ hi < b i then false else runB b f (i + 1) (k + 1 - 1) 128 191 := rfl
  rw [e, if_neg (by omega), Nat.add_sub_cancel]
  by_cases h : b i < lo ∨ hi < b i
  · rw [if_pos h, decide_eq_false (by omega), Bool.false_and]
  · rw [if_neg h, decide_eq_true (by omega), Bool.true_and]
theorem run_zero_due (b : Nat → Nat) (i k lo hi : Nat) : runB b 0 i (k + 1) lo hi = false := rfl
theorem run_free (b : Nat → Nat) (f i lo hi : Nat) : runB b (f + 1) i 0 lo hi = if b i < 128 then runB b f (i + 1) 0 lo hi else if b i < 194 ∨ 244 < b i then false else runB b f (i + 1) (moreB (b i)) (loB (b i)) (hiB (b i)) := rfl
theorem cont_le (c : Nat) : cont c = decide (128 ≤ c ∧ c ≤ 191) := by
  unfold cont
  rw [Bool.eq_iff_iff, decide_eq_true_iff, decide_eq_true_iff]; omega
theorem run_bad (b : Nat → Nat) (len : Nat) (hout : ∀ j, len ≤ j → b j = 256) : ∀ f i lo hi, i ≤ len → len - i ≤ f → runB b (len - i) i 0 lo hi = decide (badF b len f i = len) := by
  intro f
  induction f using Nat.strongRecOn with
  | ind f ih =>
    intro i lo hi h1 h2
    by_cases hlt : i < len
    · obtain ⟨f', rfl⟩ : ∃ f', f = f' + 1 := ⟨f - 1, by omega⟩
      have hb : badF b len (f' + 1) i = if nx b i = 0 then i else badF b len f' (i + nx b i) := by
        show (if i < len then _ else _) = _
        rw [if_pos hlt]
      obtain ⟨r, hr⟩ : ∃ r, len - i = r + 1 := ⟨len - i - 1, by omega⟩
      rw [hb, hr, run_free]
      have no : decide (i = len) = false := decide_eq_false (by omega)
      by_cases c1 : b i < 128
      · have hn : nx b i = 1 := by unfold nx; rw [if_pos c1]
        rw [if_pos c1, hn, if_neg (by decide), show r = len - (i + 1) from by omega]
        exact ih f' (by omega) (i + 1) lo hi (by omega) (by omega)
      rw [if_neg c1]
      by_cases c2 : b i < 194 ∨ 244 < b i
      · have hn : nx b i = 0 := by unfold nx; rw [if_neg c1, if_neg (by omega), if_neg (by omega), if_neg (by omega)]
        rw [if_pos c2, hn, if_pos rfl, no]
      rw [if_neg c2]
      have fin : ∀ (ok : Bool) (k : Nat), 0 < k → (ok = true → i + k ≤ len) → nx b i = (if ok = true then k else 0) → (ok && runB b (len - (i + k)) (i + k) 0 128 191) = decide ((if nx b i = 0 then i else badF b len f' (i + nx b i)) = len) := by
        intro ok k hk hle hn
        rw [hn]
        cases ok
        · simp only [Bool.false_eq_true, if_false, if_true, Bool.false_and, no]
        · simp only [if_true, Bool.true_and]
          rw [if_neg (by omega)]
          exact ih f' (by omega) (i + k) 128 191 (hle rfl) (by omega)
      by_cases c3 : b i < 224
      · have hm : moreB (b i) = 1 := by unfold moreB; rw [if_neg (by omega), if_neg (by omega)]
        have hlo : loB (b i) = 128 := by unfold loB; rw [if_neg (by omega), if_neg (by omega)]
        have hhi : hiB (b i) = 191 := by unfold hiB; rw [if_neg (by omega), if_neg (by omega)]
        have hn : nx b i = if cont (b (i + 1)) = true then 2 else 0 := by unfold nx; rw [if_neg c1, if_pos (by omega)]
        rw [hm, hlo, hhi]
        refine Eq.trans ?_ (fin (cont (b (i + 1))) 2 (by decide) ?_ hn)
        · cases r with
          | zero =>
            rw [run_zero_due, cont_le, hout (i + 1) (by omega)]; rfl
          | succ r =>
            rw [run_due, cont_le, show len - (i + 2) = r from by omega]
        · intro k
          rcases Nat.lt_or_ge (i + 1) len with g | g
          · omega
          · rw [hout _ g] at k; exact absurd k (by decide)
      by_cases c4 : b i < 240
      · have hm : moreB (b i) = 2 := by unfold moreB; rw [if_neg (by omega), if_pos (by omega)]
        have hn : nx b i = if (decide (loB (b i) ≤ b (i + 1) ∧ b (i + 1) ≤ hiB (b i)) && cont (b (i + 2))) = true then 3 else 0 := by
          unfold nx; rw [if_neg c1, if_neg (by omega), if_pos (by omega)]; simp only [Bool.and_eq_true, decide_eq_true_eq]
        have hh := (hi_le (b i) 256).1
        rw [hm]
        refine Eq.trans ?_ (fin _ 3 (by decide) ?_ hn)
        · cases r with
          | zero =>
            rw [run_zero_due, hout (i + 1) (by omega), decide_eq_false (by intro k; have := hh k.2; omega)]; rfl
          | succ r =>
            rw [run_due]
            cases r with
            | zero =>
              rw [run_zero_due, show i + 1 + 1 = i + 2 from rfl, hout (i + 2) (by omega)]
              simp [cont]
            | succ r =>
              rw [run_due, cont_le, show len - (i + 3) = r from by omega, Bool.and_assoc]
        · intro k
          rw [Bool.and_eq_true] at k
          rcases Nat.lt_or_ge (i + 2) len with g | g
          · omega
          · rw [hout _ g] at k; exact absurd k.2 (by decide)
      · have hm : moreB (b i) = 3 := by unfold moreB; rw [if_pos (by omega)]
        have hn : nx b i = if (decide (loB (b i) ≤ b (i + 1) ∧ b (i + 1) ≤ hiB (b i)) && (cont (b (i + 2)) && cont (b (i + 3)))) = true then 4 else 0 := by
          unfold nx; rw [if_neg c1, if_neg (by omega), if_neg (by omega), if_pos (by omega)]; simp only [Bool.and_eq_true, decide_eq_true_eq]
        have hh := (hi_le (b i) 256).1
        rw [hm]
        refine Eq.trans ?_ (fin _ 4 (by decide) ?_ hn)
        · cases r with
          | zero =>
            rw [run_zero_due, hout (i + 1) (by omega), decide_eq_false (by intro k; have := hh k.2; omega)]; rfl
          | succ r =>
            rw [run_due]
            cases r with
            | zero =>
              rw [run_zero_due, show i + 1 + 1 = i + 2 from rfl, hout (i + 2) (by omega)]
              simp [cont]
            | succ r =>
              rw [run_due]
              cases r with
              | zero =>
                rw [run_zero_due, hout (i + 3) (by omega)]
                simp [cont]
              | succ r =>
                rw [run_due, cont_le, cont_le, show len - (i + 4) = r from by omega, Bool.and_assoc, Bool.and_assoc]
        · intro k
          rw [Bool.and_eq_true, Bool.and_eq_true] at k
          rcases Nat.lt_or_ge (i + 3) len with g | g
          · omega
          · rw [hout _ g] at k; exact absurd k.2.2 (by decide)
    · obtain rfl : i = len := by omega
      have hb : badF b i f i = i := by
        cases f with
        | zero => rfl
        | succ f => show (if i < i then _ else _) = _; rw [if_neg (by omega)]
      rw [hb, Nat.sub_self]
      simp [runB]
theorem bad_le (b : Nat → Nat) (len : Nat) (hout : ∀ j, len ≤ j → b j = 256) : ∀ f i, i ≤ len → badF b len f i ≤ len := by
  intro f
  induction f with
  | zero => intro i h; exact h
  | succ f ih =>
    intro i h
    show (if i < len then _ else _) ≤ len
    by_cases hlt : i < len
    · rw [if_pos hlt]
      by_cases hn : nx b i = 0
      · rw [if_pos hn]; exact h
      · rw [if_neg hn]
        refine ih _ ?_
        -- all its bytes are there
        have : nx b i ≤ len - i := by
          unfold nx at hn ⊢
          by_cases c1 : b i < 128
          · rw [if_pos c1]; omega
          rw [if_neg c1] at hn ⊢
          by_cases c2 : 194 ≤ b i ∧ b i < 224
          · rw [if_pos c2] at hn ⊢
            split
            · rename_i k
              rcases Nat.lt_or_ge (i + 1) len with g | g
              · omega
              · rw [hout _ g] at k; exact absurd k (by decide)
            · omega
          rw [if_neg c2] at hn ⊢
          by_cases c3 : 224 ≤ b i ∧ b i < 240
          · rw [if_pos c3] at hn ⊢
            split
            · rename_i k
              rcases Nat.lt_or_ge (i + 2) len with g | g
              · omega
              · rw [hout _ g] at k; exact absurd k.2 (by decide)
            · omega
          rw [if_neg c3] at hn ⊢
          by_cases c4 : 240 ≤ b i ∧ b i < 245
          · rw [if_pos c4] at hn ⊢
            split
            · rename_i k
              rcases Nat.lt_or_ge (i + 3) len with g | g
              · omega
              · rw [hout _ g] at k; exact absurd k.2.2 (by decide)
            · omega
          rw [if_neg c4] at hn
          exact absurd rfl hn
        omega
    · rw [if_neg hlt]; exact h
end
section
open Go.RowKit
def badAt (s : ByteArray) : Nat := badF (bt s) s.size s.size 0
def BadRel (s : ByteArray) (w : World) (v : Value) (wr : World) : Prop :=
  ∃ k f : Nat, v = .int .i64 k ∧ k ≤ s.size ∧ s.size - k ≤ f ∧ badF (bt s) s.size f k = badAt s ∧ w = wr
theorem bt_outs (s : ByteArray) : ∀ j, s.size ≤ j → bt s j = 256 := fun _ h => bt_out h
theorem badF_next (b : Nat → Nat) (len f i : Nat) (h : i < len) (hn : nx b i ≠ 0) : badF b len (f + 1) i = badF b len f (i + nx b i) := by
  show (if i < len then _ else _) = _
  rw [if_pos h, if_neg hn]
theorem badF_stop (b : Nat → Nat) (len f i : Nat) (h : i < len) (hn : nx b i = 0) : badF b len (f + 1) i = i := by
  show (if i < len then _ else _) = _
  rw [if_pos h, if_pos hn]
theorem nx_in (s : ByteArray) (i : Nat) (h : i < s.size) : i + nx (bt s) i ≤ s.size := by
  by_cases hn : nx (bt s) i = 0
  · omega
  · have h1 := bad_le (bt s) s.size (bt_outs s) 1 i (by omega)
    rw [badF_next _ _ 0 i h hn] at h1
    exact h1
set_option maxRecDepth 100000 in
theorem bad_any (s : ByteArray) (hs : s.size ≤ 140737488355328) (w : World) :
    Calls Tryd.prog 37 #[.string s] w fun e w' => e = .returned (.int .i64 (badAt s)) ∧ w = w' := by
  have HF := Lib.hid (fun i (hi : i < s.size) => first_any s i hi hs)
  have HSZ := Lib.hid hs
  clear hs
  go_enter Tryd.func37, Tryd.ntmps37
  go_wp2_with fail
  go_loopw [3] (fun v wr => BadRel s w v wr) (fun v _ => s.size - (intOf v).toNat)
  case atStart => exact ⟨0, s.size, rfl, Nat.zero_le _, Nat.le_refl _, rfl, rfl⟩
  case round =>
    obtain ⟨k, f, rfl, hk, hf, hb, rfl⟩ := hrel
    have HB := Lib.hid hb
    clear hb
    by_cases hlt : k < s.size
    · obtain ⟨f, rfl⟩ : ∃ f', f = f' + 1 := ⟨f - 1, by omega⟩
      have HX := Lib.hid (nx_in s k hlt)
      have HNX := Lib.hid (nx_le (bt s) k)
      have HST := Lib.hid (badF_stop (bt s) s.size f k hlt)
      have HNE := Lib.hid (badF_next (bt s) s.size f k hlt)
      go_wp2_with fail
      refine (HF.out k hlt w).mono ?_
      rintro e w' ⟨r, rfl, rfl⟩
      by_cases hn : nx (bt s) k = 0
      · have HR := Lib.hid (HB.out.symm.trans (HST.out hn))
        have e1 : (nx (bt s) k != 0) = false := by rw [hn]; rfl
        rw [e1]
        clear HNE hn
        go_wp2_with fail
        go_ret
        exact ⟨by rw [HR.out] <;> rfl, rfl⟩
      · have e1 : (nx (bt s) k != 0) = true := by rw [bne_iff_ne]; exact hn
        have HR := Lib.hid ((HNE.out hn).symm.trans HB.out)
        rw [e1]
        have n1 : 0 < nx (bt s) k := by omega
        have x1 := HX.out
        generalize nx (bt s) k = n at *
        have s1 : IntKind.i64.wrap ((k : Int) + (n : Int)) = (k : Int) + n := IntWalk.i64_in _ (by have := HSZ.out; omega)
        clear HST HNE e1 hn
        go_wp2_with fail
        go_roundw
        case rel => exact ⟨k + n, f, by go_num, x1, by omega, HR.out, rfl⟩
        case measure => simp [intOf]; omega
    · have HR : Hid (badAt s = k) := Lib.hid (by
        rw [← HB.out]
        cases f with
        | zero => rfl
        | succ f => show (if k < s.size then _ else _) = _; rw [if_neg hlt])
      go_wp2_with fail
      go_ret
      exact ⟨by rw [HR.out] <;> rfl, rfl⟩
end
end Go.Proofs.YtjfeebbhkolmoaaDoor.E
