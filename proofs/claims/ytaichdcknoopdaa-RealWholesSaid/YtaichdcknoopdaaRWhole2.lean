/- Contracts of crucibleref05.Whole at every pattern, and of crucibleref05.FromWhole. -/
import Derived.Test.YtaichdcknoopdaaRWhole1
import Derived.Test.YtaichdcknoopdaaWhole2
import Derived.Test.YtaichdcknoopdaaSum0
namespace Go.Proofs.Ytaichdcknoopdaa
open Go.RowKit

theorem rwhole_any (n : Nat) (hn : n < 18446744073709551616) (w : World) :
    Calls Try.prog 34 #[.int .u64 n] w fun e w' => e = .returned (.tuple #[.int .i64 (wholeA n).1, .bool (wholeA n).2]) ∧ w = w' := by
  unfold wholeA
  by_cases hf : n % 9223372036854775808 < 9218868437227405312
  · rw [if_pos hf]; exact rwhole_fin n hn hf w
  · rw [if_neg hf]; exact rwhole_nan n hn hf w

theorem ofInt_top (n : Int) (s : Bool) (m : Nat) (hs : s = decide (n < 0)) (hm : m = n.natAbs) : ((floatOfInt .f64 n : Nat) : Int) = (if s = true then 9223372036854775808 else 0) + ((F64.nearest false m 0 : Nat) : Int) := by
  have e : floatOfInt .f64 n = F64.nearest (decide (n < 0)) n.natAbs 0 := rfl
  rw [e, nearest_word, word_add, hs, hm]
  cases decide (n < 0) <;> simp
theorem ofInt_lt (n : Int) : floatOfInt .f64 n < 18446744073709551616 := by
  have e : floatOfInt .f64 n = F64.nearest (decide (n < 0)) n.natAbs 0 := rfl
  rw [e]
  obtain ⟨r, h1, h2⟩ := nearest64_word (decide (n < 0)) n.natAbs 0
  rw [h2]; exact word64_lt _ _ h1
theorem ofInt_nan (n : Int) : nan64 (floatOfInt .f64 n) = false := by
  have e : floatOfInt .f64 n = F64.nearest (decide (n < 0)) n.natAbs 0 := rfl
  rw [e]
  exact nan64_write (.number (decide (n < 0)) n.natAbs 0) rfl

/-- FromWhole's second answer -/
def fromB (x : Nat) (n : Int) : Bool := (wholeA x).2 && (wholeA x).1 == n

set_option maxRecDepth 100000 in
set_option maxHeartbeats 2000000 in
theorem rfrom_any (n : Int) (n1 : -9223372036854775808 ≤ n) (n2 : n ≤ 9223372036854775807) (w : World) :
    Calls Try.prog 36 #[.int .i64 n] w fun e w' => e = .returned (.tuple #[.int .u64 ((floatOfInt .f64 n : Nat) : Int), .bool (fromB (floatOfInt .f64 n) n)]) ∧ Below w.heap.size w w' := by
  obtain ⟨m, hm⟩ : ∃ m, m = n.natAbs := ⟨_, rfl⟩
  have m1 : m < 18446744073709551616 := by omega
  have hll : ll m ≤ 2 := ll_le m 2 (by rw [show (4294967296 : Nat) ^ 2 = 18446744073709551616 from by decide]; exact m1)
  have hx := ofInt_lt n
  have hle := nearest_le m 0
  obtain ⟨x, hxx⟩ : ∃ x, x = floatOfInt .f64 n := ⟨_, rfl⟩
  have HR0 := rwhole_any x (hxx ▸ hx)
  rw [← hxx]
  rcases hW : wholeA x with ⟨k, ok⟩
  rw [hW] at HR0
  have HR := Lib.hid HR0
  have HQ : Hid (fromB x n = (ok && k == n)) := Lib.hid (by unfold fromB; rw [hW])
  clear HR0 hW
  have hxl : (x : Int) < 18446744073709551616 := by have := hxx ▸ hx; omega
  by_cases hneg : n < 0
  · have ht := ofInt_top n true m (by simp [hneg]) hm
    rw [if_pos rfl, ← hxx] at ht
    clear hxx
    have e1 : IntKind.u64.wrap n = n + 18446744073709551616 := by simp [IntKind.wrap, IntKind.bits, IntKind.signed]; omega
    have e2 : IntKind.u64.wrap (-(n + 18446744073709551616)) = (m : Int) := by simp [IntKind.wrap, IntKind.bits, IntKind.signed]; omega
    have e4 : 9223372036854775808 + ((F64.nearest false m 0 : Nat) : Int) = (x : Int) := ht.symm
    have e3 : IntKind.u64.wrap (9223372036854775808 + ((F64.nearest false m 0 : Nat) : Int)) = (x : Int) := by
      rw [e4]; exact IntWalk.u64_in _ (by omega)
    have NR := Lib.hid (fun A5 c5 wx h => nearest_ref A5 m c5 0 wx h (by omega) (by omega) (by omega))
    obtain ⟨Q, hQ⟩ : ∃ Q, Q = fromB x n := ⟨_, rfl⟩
    rw [← hQ] at HQ ⊢
    generalize ((F64.nearest false m 0 : Nat) : Int) = Z at *
    have M1 := Lib.hid m1
    clear hm ht e4 hx hle hQ hxl n1 n2 m1
    cases ok
    all_goals
      go_enter Try.func36, Try.ntmps36
      go_wp2_with fail
      refine (from_any m M1.out _).mono ?_
      rintro e w1 ⟨A1, c1, rfl, h1, -, -, h2⟩
      have R1 := Lib.hid h1
      have B1 := Lib.hid h2
      clear h1 h2
      go_wp2_with fail
      refine (NR.out A1 c1 _ R1.out).mono ?_
      rintro e w2 ⟨rfl, h2⟩
      have B2 := Lib.hid (B1.out.trans (h2.mono B1.out.size))
      clear h2 R1 B1 NR
      go_wp2_with fail
      refine (HR.out _).mono ?_
      rintro e w3 ⟨rfl, rfl⟩
      go_wp2_with fail
      go_ret2
      exact ⟨by rw [HQ.out] <;> rfl, B2.out⟩
  · have ht := ofInt_top n false m (by simp; omega) hm
    rw [if_neg (by decide), ← hxx, Int.zero_add] at ht
    clear hxx
    have e1 : IntKind.u64.wrap n = (m : Int) := by rw [IntWalk.u64_in n (by omega)]; omega
    have e4 : ((F64.nearest false m 0 : Nat) : Int) = (x : Int) := ht.symm
    have e3 : IntKind.u64.wrap ((F64.nearest false m 0 : Nat) : Int) = (x : Int) := by
      rw [e4]; exact IntWalk.u64_in _ (by omega)
    have NR := Lib.hid (fun A5 c5 wx h => nearest_ref A5 m c5 0 wx h (by omega) (by omega) (by omega))
    obtain ⟨Q, hQ⟩ : ∃ Q, Q = fromB x n := ⟨_, rfl⟩
    rw [← hQ] at HQ ⊢
    generalize ((F64.nearest false m 0 : Nat) : Int) = Z at *
    have M1 := Lib.hid m1
    clear hm ht e4 hx hle hQ hxl n1 n2 m1
    cases ok
    all_goals
      go_enter Try.func36, Try.ntmps36
      go_wp2_with fail
      refine (from_any m M1.out _).mono ?_
      rintro e w1 ⟨A1, c1, rfl, h1, -, -, h2⟩
      have R1 := Lib.hid h1
      have B1 := Lib.hid h2
      clear h1 h2
      go_wp2_with fail
      refine (NR.out A1 c1 _ R1.out).mono ?_
      rintro e w2 ⟨rfl, h2⟩
      have B2 := Lib.hid (B1.out.trans (h2.mono B1.out.size))
      clear h2 R1 B1 NR
      go_wp2_with fail
      refine (HR.out _).mono ?_
      rintro e w3 ⟨rfl, rfl⟩
      go_wp2_with fail
      go_ret2
      exact ⟨by rw [HQ.out] <;> rfl, B2.out⟩
end Go.Proofs.Ytaichdcknoopdaa
