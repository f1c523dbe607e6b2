/- Contracts of crucibleref10.digit and encode. -/
import Derived.Test.YtjfeebbhkolmoaaDoorR10Inside
namespace Go.Proofs.YtjfeebbhkolmoaaDoor.R
open Go.RowKit
set_option linter.unusedVariables false

/-- a digit of base 16; -1: none -/
def digZ (c : Nat) : Int := if 48 ≤ c ∧ c ≤ 57 then (c : Int) - 48 else if 97 ≤ c ∧ c ≤ 102 then (c : Int) - 87 else if 65 ≤ c ∧ c ≤ 70 then (c : Int) - 55 else -1
theorem digit_dec (c : Nat) (h : 48 ≤ c) (h' : c ≤ 57) (w : World) :
    Calls Tryd.prog 96 #[.int .u8 c] w fun e w' => e = .returned (.int .i64 (digZ c)) ∧ w = w' := by
  have H : Hid (digZ c = (c : Int) - 48) := Lib.hid (by unfold digZ; repeat' split; all_goals omega)
  have h1 : 48 ≤ (c : Int) := by omega
  have h2 : (c : Int) ≤ 57 := by omega
  clear h h'
  go_enter Tryd.func96, Tryd.ntmps96
  go_wp2_with fail
  go_ret
  refine ⟨?_, rfl⟩
  rw [H.out]
  first | rfl | (refine congrArg (fun z => Ending.returned (Value.int IntKind.i64 z)) ?_; omega)
theorem digit_low (c : Nat) (h : 97 ≤ c) (h' : c ≤ 102) (w : World) :
    Calls Tryd.prog 96 #[.int .u8 c] w fun e w' => e = .returned (.int .i64 (digZ c)) ∧ w = w' := by
  have H : Hid (digZ c = (c : Int) - 87) := Lib.hid (by unfold digZ; repeat' split; all_goals omega)
  have h1 : 97 ≤ (c : Int) := by omega
  have h2 : (c : Int) ≤ 102 := by omega
  have n1 : ¬ ((c : Int) ≤ 57) := by omega
  clear h h'
  go_enter Tryd.func96, Tryd.ntmps96
  go_wp2_with fail
  go_ret
  refine ⟨?_, rfl⟩
  rw [H.out]
  first | rfl | (refine congrArg (fun z => Ending.returned (Value.int IntKind.i64 z)) ?_; omega)
theorem digit_up (c : Nat) (h : 65 ≤ c) (h' : c ≤ 70) (w : World) :
    Calls Tryd.prog 96 #[.int .u8 c] w fun e w' => e = .returned (.int .i64 (digZ c)) ∧ w = w' := by
  have H : Hid (digZ c = (c : Int) - 55) := Lib.hid (by unfold digZ; repeat' split; all_goals omega)
  have h1 : 65 ≤ (c : Int) := by omega
  have h2 : (c : Int) ≤ 70 := by omega
  have n1 : ¬ ((c : Int) ≤ 57) := by omega
  have n2 : (c : Int) < 97 := by omega
  clear h h'
  go_enter Tryd.func96, Tryd.ntmps96
  go_wp2_with fail
  go_ret
  refine ⟨?_, rfl⟩
  rw [H.out]
  first | rfl | (refine congrArg (fun z => Ending.returned (Value.int IntKind.i64 z)) ?_; omega)

/-- the bytes of a code point -/
def encN (n : Nat) : List Nat :=
  if n < 128 then [n] else if n < 2048 then [192 + n / 64, 128 + n % 64] else if n < 65536 then [224 + n / 4096, 128 + n / 64 % 64, 128 + n % 64]
  else [240 + n / 262144, 128 + n / 4096 % 64, 128 + n / 64 % 64, 128 + n % 64]
def EncPost (w : World) (n : Nat) (e : Ending) (w' : World) : Prop :=
  ∃ g k, e = .returned (.slice (some ⟨g, 0, none⟩) k k) ∧ k = (encN n).length ∧ w'.heap[g]? = some (.cells (vals .u8 (encN n)).toArray 5 (0, 0)) ∧ Below w.heap.size w w'
set_option maxRecDepth 100000 in
set_option maxHeartbeats 1000000 in
theorem encode_1 (n : Nat) (h : 0 ≤ n) (h' : n < 128) (w : World) : Calls Tryd.prog 97 #[.int .i64 n] w (EncPost w n) := by
  have z0 : IntKind.u8.wrap (n : Int) = (n : Int) := IntWalk.u8_in _ (by omega)
  have H : Hid (encN n = [n]) := Lib.hid (by unfold encN; rw [if_pos (by omega)] <;> first | rfl | simp [])
  have h1 : 0 ≤ (n : Int) := by omega
  have h2 : (n : Int) < 128 := by omega
  have h0 : 0 ≤ (n : Int) := by omega
  clear h h' 
  go_enter Tryd.func97, Tryd.ntmps97
  go_wp2_with fail
  go_ret
  exact ⟨w.heap.size, 1, rfl, by rw [H.out] <;> rfl, by rw [H.out]; exact heap_alloc_new _ _, (Below.refl _ _).alloc (Nat.le_refl _) _⟩
set_option maxRecDepth 100000 in
set_option maxHeartbeats 1000000 in
theorem encode_2 (n : Nat) (h : 128 ≤ n) (h' : n < 2048) (w : World) : Calls Tryd.prog 97 #[.int .i64 n] w (EncPost w n) := by
  obtain ⟨x0, hx0⟩ : ∃ x : Nat, x = 192 + n / 64 := ⟨_, rfl⟩
  have y0 : 192 + (n : Int) / 64 = (x0 : Int) := by omega
  have z0 : IntKind.u8.wrap (x0 : Int) = (x0 : Int) := IntWalk.u8_in _ (by omega)
  obtain ⟨x1, hx1⟩ : ∃ x : Nat, x = 128 + n % 64 := ⟨_, rfl⟩
  have y1 : 128 + (n : Int) % 64 = (x1 : Int) := by omega
  have z1 : IntKind.u8.wrap (x1 : Int) = (x1 : Int) := IntWalk.u8_in _ (by omega)
  have H : Hid (encN n = [x0, x1]) := Lib.hid (by unfold encN; rw [if_neg (by omega), if_pos (by omega)] <;> first | rfl | simp [hx0, hx1])
  have h1 : 128 ≤ (n : Int) := by omega
  have h2 : (n : Int) < 2048 := by omega
  have h0 : 0 ≤ (n : Int) := by omega
  have d128 : decide ((n : Int) < 128) = false := decide_eq_false (by omega)
  clear h h' hx0 hx1
  go_enter Tryd.func97, Tryd.ntmps97
  go_wp2_with fail
  go_ret
  exact ⟨w.heap.size, 2, rfl, by rw [H.out] <;> rfl, by rw [H.out]; exact heap_alloc_new _ _, (Below.refl _ _).alloc (Nat.le_refl _) _⟩
set_option maxRecDepth 100000 in
set_option maxHeartbeats 1000000 in
theorem encode_3 (n : Nat) (h : 2048 ≤ n) (h' : n < 65536) (w : World) : Calls Tryd.prog 97 #[.int .i64 n] w (EncPost w n) := by
  obtain ⟨x0, hx0⟩ : ∃ x : Nat, x = 224 + n / 4096 := ⟨_, rfl⟩
  have y0 : 224 + (n : Int) / 4096 = (x0 : Int) := by omega
  have z0 : IntKind.u8.wrap (x0 : Int) = (x0 : Int) := IntWalk.u8_in _ (by omega)
  obtain ⟨x1, hx1⟩ : ∃ x : Nat, x = 128 + n / 64 % 64 := ⟨_, rfl⟩
  have y1 : 128 + (n : Int) / 64 % 64 = (x1 : Int) := by omega
  have z1 : IntKind.u8.wrap (x1 : Int) = (x1 : Int) := IntWalk.u8_in _ (by omega)
  obtain ⟨x2, hx2⟩ : ∃ x : Nat, x = 128 + n % 64 := ⟨_, rfl⟩
  have y2 : 128 + (n : Int) % 64 = (x2 : Int) := by omega
  have z2 : IntKind.u8.wrap (x2 : Int) = (x2 : Int) := IntWalk.u8_in _ (by omega)
  have H : Hid (encN n = [x0, x1, x2]) := Lib.hid (by unfold encN; rw [if_neg (by omega), if_neg (by omega), if_pos (by omega)] <;> first | rfl | simp [hx0, hx1, hx2])
  have h1 : 2048 ≤ (n : Int) := by omega
  have h2 : (n : Int) < 65536 := by omega
  have h0 : 0 ≤ (n : Int) := by omega
  have d128 : decide ((n : Int) < 128) = false := decide_eq_false (by omega)
  have d2048 : decide ((n : Int) < 2048) = false := decide_eq_false (by omega)
  clear h h' hx0 hx1 hx2
  go_enter Tryd.func97, Tryd.ntmps97
  go_wp2_with fail
  go_ret
  exact ⟨w.heap.size, 3, rfl, by rw [H.out] <;> rfl, by rw [H.out]; exact heap_alloc_new _ _, (Below.refl _ _).alloc (Nat.le_refl _) _⟩
set_option maxRecDepth 100000 in
set_option maxHeartbeats 1000000 in
theorem encode_4 (n : Nat) (h : 65536 ≤ n) (h' : n < 1114112) (w : World) : Calls Tryd.prog 97 #[.int .i64 n] w (EncPost w n) := by
  obtain ⟨x0, hx0⟩ : ∃ x : Nat, x = 240 + n / 262144 := ⟨_, rfl⟩
  have y0 : 240 + (n : Int) / 262144 = (x0 : Int) := by omega
  have z0 : IntKind.u8.wrap (x0 : Int) = (x0 : Int) := IntWalk.u8_in _ (by omega)
  obtain ⟨x1, hx1⟩ : ∃ x : Nat, x = 128 + n / 4096 % 64 := ⟨_, rfl⟩
  have y1 : 128 + (n : Int) / 4096 % 64 = (x1 : Int) := by omega
  have z1 : IntKind.u8.wrap (x1 : Int) = (x1 : Int) := IntWalk.u8_in _ (by omega)
  obtain ⟨x2, hx2⟩ : ∃ x : Nat, x = 128 + n / 64 % 64 := ⟨_, rfl⟩
  have y2 : 128 + (n : Int) / 64 % 64 = (x2 : Int) := by omega
  have z2 : IntKind.u8.wrap (x2 : Int) = (x2 : Int) := IntWalk.u8_in _ (by omega)
  obtain ⟨x3, hx3⟩ : ∃ x : Nat, x = 128 + n % 64 := ⟨_, rfl⟩
  have y3 : 128 + (n : Int) % 64 = (x3 : Int) := by omega
  have z3 : IntKind.u8.wrap (x3 : Int) = (x3 : Int) := IntWalk.u8_in _ (by omega)
  have H : Hid (encN n = [x0, x1, x2, x3]) := Lib.hid (by unfold encN; rw [if_neg (by omega), if_neg (by omega), if_neg (by omega)] <;> first | rfl | simp [hx0, hx1, hx2, hx3])
  have h1 : 65536 ≤ (n : Int) := by omega
  have h2 : (n : Int) < 1114112 := by omega
  have h0 : 0 ≤ (n : Int) := by omega
  have d128 : decide ((n : Int) < 128) = false := decide_eq_false (by omega)
  have d2048 : decide ((n : Int) < 2048) = false := decide_eq_false (by omega)
  have d65536 : decide ((n : Int) < 65536) = false := decide_eq_false (by omega)
  clear h h' hx0 hx1 hx2 hx3
  go_enter Tryd.func97, Tryd.ntmps97
  go_wp2_with fail
  go_ret
  exact ⟨w.heap.size, 4, rfl, by rw [H.out] <;> rfl, by rw [H.out]; exact heap_alloc_new _ _, (Below.refl _ _).alloc (Nat.le_refl _) _⟩
end Go.Proofs.YtjfeebbhkolmoaaDoor.R
