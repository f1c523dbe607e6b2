/- Contracts of real.Whole, real.FromWhole, and real.Single at a number that fits. -/
import Derived.Test.YtaichdcknoopdaaHalf
namespace Go.Proofs.Ytaichdcknoopdaa
open Go.RowKit
attribute [local go_sem] cfFrom cfBits cfFrom32 cfBits32

/-- x lies within the whole numbers of 64 bits -/
def inI64 (x : Nat) : Bool := (F64.order x 14114281232179134464 == some .gt || F64.order x 14114281232179134464 == some .eq) && F64.order x 4890909195324358656 == some .lt

/-- Whole's answer, where no step of it is left open -/
def wholeO (x : Nat) : Option (Int × Bool) :=
  if inI64 x = true then (floatToIntVal .f64 x .i64).bind fun n => some (if (F64.order (floatOfInt .f64 n) x == some .eq) = true then (n, true) else (0, false))
  else some (0, false)

theorem whole_any (x : Nat) (r : Int × Bool) (hr : wholeO x = some r) (w : World) :
    Calls Try.prog 35 #[.float .f64 x] w fun e w' => e = .returned (.tuple #[.int .i64 r.1, .bool r.2]) ∧ w = w' := by
  unfold wholeO at hr
  by_cases h1 : inI64 x = true
  · rw [if_pos h1] at hr
    obtain ⟨n, hn, hr⟩ := bind_some' hr
    unfold inI64 at h1
    have h4 := run_convert_float_int (P := Try.prog) w 29 2 .f64 .i64 x n (by rw [Try.underlying29]; rfl) Try.underlying2 hn
    clear hn
    rw [Bool.and_eq_true] at h1
    obtain ⟨h1, h2⟩ := h1
    by_cases h3 : (F64.order (floatOfInt .f64 n) x == some .eq) = true
    · rw [if_pos h3] at hr
      obtain rfl := Option.some.inj hr
      clear hr
      go_enter Try.func35, Try.ntmps35
      go_wp2
      all_goals go_ret2
      all_goals exact ⟨rfl, rfl⟩
    · rw [if_neg h3] at hr
      have h3' : (F64.order (floatOfInt .f64 n) x == some .eq) = false := by simpa using h3
      obtain rfl := Option.some.inj hr
      clear hr h3
      go_enter Try.func35, Try.ntmps35
      go_wp2
      all_goals go_ret2
      all_goals exact ⟨rfl, rfl⟩
  · rw [if_neg h1] at hr
    obtain rfl := Option.some.inj hr
    have h1' : inI64 x = false := by simpa using h1
    unfold inI64 at h1'
    clear hr h1
    by_cases h2 : (F64.order x 14114281232179134464 == some .gt || F64.order x 14114281232179134464 == some .eq) = true
    · rw [h2, Bool.true_and] at h1'
      go_enter Try.func35, Try.ntmps35
      go_wp2
      all_goals go_ret2
      all_goals exact ⟨rfl, rfl⟩
    · have h2' : (F64.order x 14114281232179134464 == some .gt || F64.order x 14114281232179134464 == some .eq) = false := by simpa using h2
      clear h1' h2
      go_enter Try.func35, Try.ntmps35
      go_wp2
      all_goals go_ret2
      all_goals exact ⟨rfl, rfl⟩

theorem fromWhole_any (n : Int) (r : Int × Bool) (hr : wholeO (floatOfInt .f64 n) = some r) (w : World) :
    Calls Try.prog 37 #[.int .i64 n] w fun e w' => e = .returned (.tuple #[.float .f64 (floatOfInt .f64 n), .bool (r.2 && r.1 == n)]) ∧ w = w' := by
  obtain ⟨k, b⟩ := r
  cases b
  all_goals
    go_enter Try.func37, Try.ntmps37
    go_wp2_with (go_at_call 35; refine (whole_any _ _ hr _).mono ?_; rintro e w' ⟨rfl, rfl⟩)
    go_ret2
    exact ⟨rfl, rfl⟩

/-- Single's answer, where no step of it is left open -/
def singleO (x : Nat) : Option (Nat × Bool) :=
  (floatToFloatBits .f64 x .f32).bind fun s => (floatToFloatBits .f32 s .f64).bind fun y => some (s, F64.order y x == some .eq || F64.order x x != some .eq)

theorem single_any (x : Nat) (r : Nat × Bool) (hr : singleO x = some r) (w : World) :
    Calls Try.prog 13 #[.float .f64 x] w fun e w' => e = .returned (.tuple #[.float .f32 r.1, .bool r.2]) ∧ w = w' := by
  unfold singleO at hr
  obtain ⟨s, hs, hr⟩ := bind_some' hr
  obtain ⟨y, hy, hr⟩ := bind_some' hr
  obtain rfl := Option.some.inj hr
  have h1 := run_convert_float_float (P := Try.prog) w 29 26 .f64 .f32 x s (by rw [Try.underlying29]; rfl) Try.underlying26 hs
  have h2 := run_convert_float_float (P := Try.prog) w 26 29 .f32 .f64 s y (by rw [Try.underlying26]; rfl) Try.underlying29 hy
  clear hr hs hy
  by_cases h3 : (F64.order y x == some .eq) = true
  · go_enter Try.func13, Try.ntmps13
    go_wp2
    go_ret2
    exact ⟨by rw [h3] <;> rfl, rfl⟩
  · have h3' : (F64.order y x == some .eq) = false := by simpa using h3
    clear h3
    go_enter Try.func13, Try.ntmps13
    go_wp2
    go_ret2
    exact ⟨by rw [h3'] <;> rfl, rfl⟩
end Go.Proofs.Ytaichdcknoopdaa
