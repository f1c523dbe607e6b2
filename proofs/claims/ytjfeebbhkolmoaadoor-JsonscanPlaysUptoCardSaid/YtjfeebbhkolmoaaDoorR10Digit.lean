/- Contract of crucibleref10.digit where it is none. -/
import Derived.Test.YtjfeebbhkolmoaaDoorR10Encode
namespace Go.Proofs.YtjfeebbhkolmoaaDoor.R
open Go.RowKit
set_option linter.unusedVariables false

theorem digit_no_a (c : Nat) (h : c < 48) (w : World) :
    Calls Tryd.prog 96 #[.int .u8 c] w fun e w' => e = .returned (.int .i64 (digZ c)) ∧ w = w' := by
  have H : Hid (digZ c = -1) := Lib.hid (by unfold digZ; repeat' split; all_goals omega)
  have h1 : (c : Int) < 48 := by omega
  have h2 : (c : Int) < 97 := by omega
  have h3 : (c : Int) < 65 := by omega
  clear h
  go_enter Tryd.func96, Tryd.ntmps96
  go_wp2_with fail
  go_ret
  refine ⟨?_, rfl⟩
  rw [H.out] <;> rfl
theorem digit_no_b (c : Nat) (h : 57 < c ∧ c < 65) (w : World) :
    Calls Tryd.prog 96 #[.int .u8 c] w fun e w' => e = .returned (.int .i64 (digZ c)) ∧ w = w' := by
  have H : Hid (digZ c = -1) := Lib.hid (by unfold digZ; repeat' split; all_goals omega)
  have h0 : 48 ≤ (c : Int) := by omega
  have h1 : 57 < (c : Int) := by omega
  have h2 : (c : Int) < 97 := by omega
  have h3 : (c : Int) < 65 := by omega
  clear h
  go_enter Tryd.func96, Tryd.ntmps96
  go_wp2_with fail
  go_ret
  refine ⟨?_, rfl⟩
  rw [H.out] <;> rfl
theorem digit_no_c (c : Nat) (h : 70 < c ∧ c < 97) (w : World) :
    Calls Tryd.prog 96 #[.int .u8 c] w fun e w' => e = .returned (.int .i64 (digZ c)) ∧ w = w' := by
  have H : Hid (digZ c = -1) := Lib.hid (by unfold digZ; repeat' split; all_goals omega)
  have h0 : 48 ≤ (c : Int) := by omega
  have h1 : 57 < (c : Int) := by omega
  have h2 : (c : Int) < 97 := by omega
  have h3 : 65 ≤ (c : Int) := by omega
  have h4 : 70 < (c : Int) := by omega
  clear h
  go_enter Tryd.func96, Tryd.ntmps96
  go_wp2_with fail
  go_ret
  refine ⟨?_, rfl⟩
  rw [H.out] <;> rfl
theorem digit_no_d (c : Nat) (h : 102 < c) (w : World) :
    Calls Tryd.prog 96 #[.int .u8 c] w fun e w' => e = .returned (.int .i64 (digZ c)) ∧ w = w' := by
  have H : Hid (digZ c = -1) := Lib.hid (by unfold digZ; repeat' split; all_goals omega)
  have h0 : 48 ≤ (c : Int) := by omega
  have h1 : 57 < (c : Int) := by omega
  have h2 : 97 ≤ (c : Int) := by omega
  have h3 : 102 < (c : Int) := by omega
  have h4 : 65 ≤ (c : Int) := by omega
  have h5 : 70 < (c : Int) := by omega
  clear h
  go_enter Tryd.func96, Tryd.ntmps96
  go_wp2_with fail
  go_ret
  refine ⟨?_, rfl⟩
  rw [H.out] <;> rfl
theorem digit_any (c : Nat) (w : World) : Calls Tryd.prog 96 #[.int .u8 c] w fun e w' => e = .returned (.int .i64 (digZ c)) ∧ w = w' := by
  by_cases h1 : c < 48
  · exact digit_no_a c h1 w
  by_cases h2 : c ≤ 57
  · exact digit_dec c (by omega) h2 w
  by_cases h3 : c < 65
  · exact digit_no_b c (by omega) w
  by_cases h4 : c ≤ 70
  · exact digit_up c (by omega) h4 w
  by_cases h5 : c < 97
  · exact digit_no_c c (by omega) w
  by_cases h6 : c ≤ 102
  · exact digit_low c (by omega) h6 w
  exact digit_no_d c (by omega) w
theorem digZ_range (c : Nat) : -1 ≤ digZ c ∧ digZ c ≤ 15 := by unfold digZ; repeat' split; all_goals omega
theorem encode_any (n : Nat) (h : n < 1114112) (w : World) : Calls Tryd.prog 97 #[.int .i64 n] w (EncPost w n) := by
  by_cases h1 : n < 128
  · exact encode_1 n (by omega) h1 w
  by_cases h2 : n < 2048
  · exact encode_2 n (by omega) h2 w
  by_cases h3 : n < 65536
  · exact encode_3 n (by omega) h3 w
  exact encode_4 n (by omega) h w
end Go.Proofs.YtjfeebbhkolmoaaDoor.R
