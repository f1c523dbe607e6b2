/- law07.read: Read of a width that is told by a number. -/
import Derived.Test.YtgckfilmhnapeaaDoorDrA
import Derived.Test.YtgckfilmhnapeaaDoorDrB
import Derived.Test.YtgckfilmhnapeaaDoorDrC
import Derived.Test.YtgckfilmhnapeaaDoorDrM
namespace Go.Proofs.YtgckfilmhnapeaaDoor
open Go.RowKit Go.Lib
set_option linter.unusedVariables false

def wF (u : Int) : Nat := if u % 4 = 1 then 23 else if u % 4 = 2 then 52 else 10
def wL (u : Int) : Nat := if u % 4 = 1 then 149 else if u % 4 = 2 then 1074 else 24
def wW (u : Int) : Nat := if u % 4 = 1 then 254 else if u % 4 = 2 then 2046 else 30
def wS (u : Int) : Nat := if u % 4 = 1 then 2147483648 else if u % 4 = 2 then 9223372036854775808 else 32768
/-- what is read -/
def LVal (f l W sign : Nat) (neg : Bool) (s : ByteArray) (p : Int) (v : Int) : Prop :=
  (fineB s = false ∧ v = 0) ∨ (fineB s = true ∧ ∃ sz : Nat, v = ((sgnN neg sz sign : Nat) : Int) ∧ RdSpec f l W (nval s.data.toList) (p - s.data.toList.length) sz ∧ sz < sign)
theorem LVal.range {f l W sign : Nat} {neg : Bool} {s : ByteArray} {p v : Int} (h : LVal f l W sign neg s p v) (h0 : 0 < sign) : 0 ≤ v ∧ v < 2 * (sign : Int) := by
  rcases h with ⟨-, rfl⟩ | ⟨-, sz, rfl, -, hs⟩
  · omega
  · unfold sgnN; split <;> omega
theorem wrap64 (v : Int) (h0 : 0 ≤ v) (h1 : v < 18446744073709551616) : IntKind.u64.wrap v = v := by
  simp only [IntKind.wrap]
  simp [IntKind.signed, IntKind.bits]
  omega

theorem lv_A (neg : Bool) (s : ByteArray) (p : Int) (w : World) (hT : Tabs0 w) (hs : s.size ≤ 140737488355328) (hp1 : -9223372036854775808 ≤ p) (hp2 : p ≤ 9223372036854775807) :
    Calls Tryd.prog 20 #[.agg #[.bool neg, .string s, .int .i64 p]] w fun e w' => ∃ v : Int, e = .returned (.tuple #[.int .u64 v, .bool (fineB s)]) ∧ Below w.heap.size w w' ∧ LVal 52 1074 2046 9223372036854775808 neg s p v := by
  cases hf : fineB s
  · refine (dread_no_A neg s p w hf).mono ?_
    rintro e w' ⟨rfl, hb⟩
    exact ⟨0, rfl, hb, .inl ⟨hf, rfl⟩⟩
  · refine (dread_A neg s p w hT hf hs hp1 hp2).mono ?_
    rintro e w' ⟨sz, rfl, hr, hb⟩
    exact ⟨_, rfl, hb, .inr ⟨hf, sz, rfl, hr, Nat.lt_of_le_of_lt hr.1 (by decide)⟩⟩

theorem lv_B (neg : Bool) (s : ByteArray) (p : Int) (w : World) (hT : Tabs0 w) (hs : s.size ≤ 140737488355328) (hp1 : -9223372036854775808 ≤ p) (hp2 : p ≤ 9223372036854775807) :
    Calls Tryd.prog 40 #[.agg #[.bool neg, .string s, .int .i64 p]] w fun e w' => ∃ v : Int, e = .returned (.tuple #[.int .u32 v, .bool (fineB s)]) ∧ Below w.heap.size w w' ∧ LVal 23 149 254 2147483648 neg s p v := by
  cases hf : fineB s
  · refine (dread_no_B neg s p w hf).mono ?_
    rintro e w' ⟨rfl, hb⟩
    exact ⟨0, rfl, hb, .inl ⟨hf, rfl⟩⟩
  · refine (dread_B neg s p w hT hf hs hp1 hp2).mono ?_
    rintro e w' ⟨sz, rfl, hr, hb⟩
    exact ⟨_, rfl, hb, .inr ⟨hf, sz, rfl, hr, Nat.lt_of_le_of_lt hr.1 (by decide)⟩⟩

theorem lv_C (neg : Bool) (s : ByteArray) (p : Int) (w : World) (hT : Tabs0 w) (hs : s.size ≤ 140737488355328) (hp1 : -9223372036854775808 ≤ p) (hp2 : p ≤ 9223372036854775807) :
    Calls Tryd.prog 42 #[.agg #[.bool neg, .string s, .int .i64 p]] w fun e w' => ∃ v : Int, e = .returned (.tuple #[.int .u16 v, .bool (fineB s)]) ∧ Below w.heap.size w w' ∧ LVal 10 24 30 32768 neg s p v := by
  cases hf : fineB s
  · refine (dread_no_C neg s p w hf).mono ?_
    rintro e w' ⟨rfl, hb⟩
    exact ⟨0, rfl, hb, .inl ⟨hf, rfl⟩⟩
  · refine (dread_C neg s p w hT hf hs hp1 hp2).mono ?_
    rintro e w' ⟨sz, rfl, hr, hb⟩
    exact ⟨_, rfl, hb, .inr ⟨hf, sz, rfl, hr, Nat.lt_of_le_of_lt hr.1 (by decide)⟩⟩

theorem lv_M (neg : Bool) (s : ByteArray) (p : Int) (w : World) (hT : Tabs0 w) (hs : s.size ≤ 140737488355328) (hp1 : -9223372036854775808 ≤ p) (hp2 : p ≤ 9223372036854775807) :
    Calls Tryd.prog 41 #[.agg #[.bool neg, .string s, .int .i64 p]] w fun e w' => ∃ v : Int, e = .returned (.tuple #[.int .u16 v, .bool (fineB s)]) ∧ Below w.heap.size w w' ∧ LVal 10 24 30 32768 neg s p v := by
  cases hf : fineB s
  · refine (dread_no_M neg s p w hf).mono ?_
    rintro e w' ⟨rfl, hb⟩
    exact ⟨0, rfl, hb, .inl ⟨hf, rfl⟩⟩
  · refine (dread_M neg s p w hT hf hs hp1 hp2).mono ?_
    rintro e w' ⟨sz, rfl, hr, hb⟩
    exact ⟨_, rfl, hb, .inr ⟨hf, sz, rfl, hr, Nat.lt_of_le_of_lt hr.1 (by decide)⟩⟩

/-- what the law's read answers -/
def LPost (u : Int) (neg : Bool) (s : ByteArray) (p : Int) (w : World) (e : Ending) (w' : World) : Prop :=
  ∃ v : Int, e = .returned (.tuple #[.int .u64 v, .bool (fineB s)]) ∧ Below w.heap.size w w' ∧ LVal (wF u) (wL u) (wW u) (wS u) neg s p v

set_option maxRecDepth 100000 in
theorem lread_A (u : Int) (hk : u.tmod 4 = 2) (neg : Bool) (s : ByteArray) (p : Int) (w : World) (hT : Tabs0 w) (hs : s.size ≤ 140737488355328) (hp1 : -9223372036854775808 ≤ p) (hp2 : p ≤ 9223372036854775807) :
    Calls Tryd.prog 16 #[.int .u8 u, .agg #[.bool neg, .string s, .int .i64 p]] w fun e w' => ∃ v : Int, e = .returned (.tuple #[.int .u64 v, .bool (fineB s)]) ∧ Below w.heap.size w w' ∧ LVal 52 1074 2046 9223372036854775808 neg s p v := by
  have HB0 : Hid (Below w.heap.size w (w.alloc (.cells #[.bool neg, .string s, .int .i64 p] 23))) := Lib.hid ((Below.refl w.heap.size w).alloc (Nat.le_refl _) _)
  have HR := Lib.hid (lv_A neg s p _ (hT.below HB0.out) hs hp1 hp2)
  have H0 := Lib.hid (dgC_new w neg s p 23)
  have c0 := H0.out.c0
  have c1 := H0.out.c1
  have c2 := H0.out.c2
  clear hT hs hp1 hp2
  go_enter Tryd.func16, Tryd.ntmps16
  go_wp2_with fail
  refine HR.out.mono ?_
  rintro e w1 ⟨v, rfl, hb1, hv⟩
  have HB1 := Lib.hid (HB0.out.trans (hb1.mono HB0.out.size))
  have HV := Lib.hid hv
  clear hb1 hv HR HB0 H0 c0 c1 c2
  go_wp2_with fail
  go_ret2
  exact ⟨v, rfl, HB1.out, HV.out⟩

set_option maxRecDepth 100000 in
theorem lread_B (u : Int) (hk : u.tmod 4 = 1) (neg : Bool) (s : ByteArray) (p : Int) (w : World) (hT : Tabs0 w) (hs : s.size ≤ 140737488355328) (hp1 : -9223372036854775808 ≤ p) (hp2 : p ≤ 9223372036854775807) :
    Calls Tryd.prog 16 #[.int .u8 u, .agg #[.bool neg, .string s, .int .i64 p]] w fun e w' => ∃ v : Int, e = .returned (.tuple #[.int .u64 v, .bool (fineB s)]) ∧ Below w.heap.size w w' ∧ LVal 23 149 254 2147483648 neg s p v := by
  have HB0 : Hid (Below w.heap.size w (w.alloc (.cells #[.bool neg, .string s, .int .i64 p] 23))) := Lib.hid ((Below.refl w.heap.size w).alloc (Nat.le_refl _) _)
  have HR := Lib.hid (lv_B neg s p _ (hT.below HB0.out) hs hp1 hp2)
  have H0 := Lib.hid (dgC_new w neg s p 23)
  have c0 := H0.out.c0
  have c1 := H0.out.c1
  have c2 := H0.out.c2
  clear hT hs hp1 hp2
  go_enter Tryd.func16, Tryd.ntmps16
  go_wp2_with fail
  refine HR.out.mono ?_
  rintro e w1 ⟨v, rfl, hb1, hv⟩
  have HB1 := Lib.hid (HB0.out.trans (hb1.mono HB0.out.size))
  have hrg := hv.range (by decide)
  have hw64 := wrap64 v hrg.1 (by omega)
  clear hrg
  have HV := Lib.hid hv
  clear hb1 hv HR HB0 H0 c0 c1 c2
  go_wp2_with fail
  go_ret2
  exact ⟨v, rfl, HB1.out, HV.out⟩

set_option maxRecDepth 100000 in
theorem lread_C (u : Int) (hk : u.tmod 4 = 0) (neg : Bool) (s : ByteArray) (p : Int) (w : World) (hT : Tabs0 w) (hs : s.size ≤ 140737488355328) (hp1 : -9223372036854775808 ≤ p) (hp2 : p ≤ 9223372036854775807) :
    Calls Tryd.prog 16 #[.int .u8 u, .agg #[.bool neg, .string s, .int .i64 p]] w fun e w' => ∃ v : Int, e = .returned (.tuple #[.int .u64 v, .bool (fineB s)]) ∧ Below w.heap.size w w' ∧ LVal 10 24 30 32768 neg s p v := by
  have HB0 : Hid (Below w.heap.size w (w.alloc (.cells #[.bool neg, .string s, .int .i64 p] 23))) := Lib.hid ((Below.refl w.heap.size w).alloc (Nat.le_refl _) _)
  have HR := Lib.hid (lv_C neg s p _ (hT.below HB0.out) hs hp1 hp2)
  have H0 := Lib.hid (dgC_new w neg s p 23)
  have c0 := H0.out.c0
  have c1 := H0.out.c1
  have c2 := H0.out.c2
  clear hT hs hp1 hp2
  go_enter Tryd.func16, Tryd.ntmps16
  go_wp2_with fail
  refine HR.out.mono ?_
  rintro e w1 ⟨v, rfl, hb1, hv⟩
  have HB1 := Lib.hid (HB0.out.trans (hb1.mono HB0.out.size))
  have hrg := hv.range (by decide)
  have hw64 := wrap64 v hrg.1 (by omega)
  clear hrg
  have HV := Lib.hid hv
  clear hb1 hv HR HB0 H0 c0 c1 c2
  go_wp2_with fail
  go_ret2
  exact ⟨v, rfl, HB1.out, HV.out⟩

set_option maxRecDepth 100000 in
theorem lread_M (u : Int) (hk : u.tmod 4 = 3) (neg : Bool) (s : ByteArray) (p : Int) (w : World) (hT : Tabs0 w) (hs : s.size ≤ 140737488355328) (hp1 : -9223372036854775808 ≤ p) (hp2 : p ≤ 9223372036854775807) :
    Calls Tryd.prog 16 #[.int .u8 u, .agg #[.bool neg, .string s, .int .i64 p]] w fun e w' => ∃ v : Int, e = .returned (.tuple #[.int .u64 v, .bool (fineB s)]) ∧ Below w.heap.size w w' ∧ LVal 10 24 30 32768 neg s p v := by
  have HB0 : Hid (Below w.heap.size w (w.alloc (.cells #[.bool neg, .string s, .int .i64 p] 23))) := Lib.hid ((Below.refl w.heap.size w).alloc (Nat.le_refl _) _)
  have HR := Lib.hid (lv_M neg s p _ (hT.below HB0.out) hs hp1 hp2)
  have H0 := Lib.hid (dgC_new w neg s p 23)
  have c0 := H0.out.c0
  have c1 := H0.out.c1
  have c2 := H0.out.c2
  clear hT hs hp1 hp2
  go_enter Tryd.func16, Tryd.ntmps16
  go_wp2_with fail
  refine HR.out.mono ?_
  rintro e w1 ⟨v, rfl, hb1, hv⟩
  have HB1 := Lib.hid (HB0.out.trans (hb1.mono HB0.out.size))
  have hrg := hv.range (by decide)
  have hw64 := wrap64 v hrg.1 (by omega)
  clear hrg
  have HV := Lib.hid hv
  clear hb1 hv HR HB0 H0 c0 c1 c2
  go_wp2_with fail
  go_ret2
  exact ⟨v, rfl, HB1.out, HV.out⟩

theorem lread_any (u : Int) (hu0 : 0 ≤ u) (hu1 : u ≤ 255) (neg : Bool) (s : ByteArray) (p : Int) (w : World) (hT : Tabs0 w) (hs : s.size ≤ 140737488355328) (hp1 : -9223372036854775808 ≤ p) (hp2 : p ≤ 9223372036854775807) :
    Calls Tryd.prog 16 #[.int .u8 u, .agg #[.bool neg, .string s, .int .i64 p]] w (LPost u neg s p w) := by
  have htm : u.tmod 4 = u % 4 := Int.tmod_eq_emod_of_nonneg hu0
  unfold LPost wF wL wW wS
  by_cases h1 : u % 4 = 1
  · simp only [h1, if_true]
    exact lread_B u (htm.trans h1) neg s p w hT hs hp1 hp2
  · by_cases h2 : u % 4 = 2
    · rw [if_neg h1, if_pos h2, if_neg h1, if_pos h2, if_neg h1, if_pos h2, if_neg h1, if_pos h2]
      exact lread_A u (htm.trans h2) neg s p w hT hs hp1 hp2
    · rw [if_neg h1, if_neg h2, if_neg h1, if_neg h2, if_neg h1, if_neg h2, if_neg h1, if_neg h2]
      by_cases h3 : u % 4 = 3
      · exact lread_M u (htm.trans h3) neg s p w hT hs hp1 hp2
      · exact lread_C u (htm.trans (by omega)) neg s p w hT hs hp1 hp2

def wB (u : Int) : Int := if u % 4 = 1 then 32 else if u % 4 = 2 then 64 else 16
theorem width_any (u : Int) (hu0 : 0 ≤ u) (w : World) : Calls Tryd.prog 15 #[.int .u8 u] w fun e w' => e = .returned (.int .i64 (wB u)) ∧ w' = w := by
  have htm : u.tmod 4 = u % 4 := Int.tmod_eq_emod_of_nonneg hu0
  unfold wB
  by_cases h1 : u % 4 = 1
  · rw [if_pos h1]
    have hk : u.tmod 4 = 1 := htm.trans h1
    clear htm h1 hu0
    go_enter Tryd.func15, Tryd.ntmps15
    go_wp2_with fail
    go_ret
    exact ⟨rfl, rfl⟩
  · by_cases h2 : u % 4 = 2
    · rw [if_neg h1, if_pos h2]
      have hk : u.tmod 4 = 2 := htm.trans h2
      clear htm h1 h2 hu0
      go_enter Tryd.func15, Tryd.ntmps15
      go_wp2_with fail
      go_ret
      exact ⟨rfl, rfl⟩
    · rw [if_neg h1, if_neg h2]
      have hk1 : (u.tmod 4 == 1) = false := by rw [beq_eq_false_iff_ne, htm]; exact h1
      have hk2 : (u.tmod 4 == 2) = false := by rw [beq_eq_false_iff_ne, htm]; exact h2
      clear htm h1 h2 hu0
      go_enter Tryd.func15, Tryd.ntmps15
      go_wp2_with fail
      go_ret
      exact ⟨rfl, rfl⟩
end Go.Proofs.YtgckfilmhnapeaaDoor
