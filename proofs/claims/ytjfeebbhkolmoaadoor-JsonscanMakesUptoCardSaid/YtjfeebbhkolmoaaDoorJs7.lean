/- Contract of (*jsonscan.Scanner).hex. -/
import Derived.Test.YtjfeebbhkolmoaaDoorJs6
import Derived.Laws.BitsAllLaws
import Derived.Laws.BitsLemmas
namespace Go.Proofs.YtjfeebbhkolmoaaDoor
open Go.RowKit
set_option linter.unusedVariables false

theorem ofInt_i64 (a : Nat) (ha : a < 9223372036854775808) : (BitVec.ofInt 64 (a : Int)).toNat = a := by
  rw [BitVec.ofInt_natCast, BitVec.toNat_ofNat]; exact Nat.mod_eq_of_lt (by omega)
theorem i64_or_nat (a b : Nat) (ha : a < 9223372036854775808) (hb : b < 9223372036854775808) : bits .or .i64 (a : Int) (b : Int) = ((a ||| b : Nat) : Int) := by
  have hx : a ||| b < 2 ^ 63 := Nat.or_lt_two_pow (by omega) (by omega)
  show IntKind.i64.wrap ((BitVec.ofInt 64 (a : Int) ||| BitVec.ofInt 64 (b : Int)).toNat : Int) = _
  rw [BitVec.toNat_or, ofInt_i64 a ha, ofInt_i64 b hb, IntKind.wrap_i64]
  omega
theorem or_16 (u d : Nat) (hu : u ≤ 4095) (hd : d < 16) : bits .or .i64 ((u : Int) * 16) (d : Int) = ((16 * u + d : Nat) : Int) := by
  have h := i64_or_nat (u * 16) d (by omega) (by omega)
  rw [Int.natCast_mul] at h
  rw [show ((16 : Nat) : Int) = 16 from rfl] at h
  rw [h, Nat.mul_comm u 16, ← Nat.two_pow_add_eq_or_of_lt (i := 4) (by omega) u]
theorem or_20 : ∀ c : Fin 256, bits .or .u8 (c.val : Int) 32 = ((c.val ||| 32 : Nat) : Int) := by decide +kernel

set_option maxRecDepth 100000 in
set_option maxHeartbeats 3000000 in
theorem hex_dec_4f (w : World) (S : Nat → Prop) (g : Nat) (s : Sc) (c u U : Nat) (h1 : 48 ≤ c) (h2 : c ≤ 57) (hU : 16 * u + (c - 48) = U) (hu : s.unit = u) (hu2 : u ≤ 4095) (hl : s.left = 4) (hp : s.pair = false) (hs : ScAt w S g s) :
    Calls Tryd.prog 94 #[.pointer (some ⟨g, 0, none⟩), .int .u8 c] w (ScPost w S g (sUnit s 3 U, 0)) := by
  have hmf := mk_f
  have HD := Lib.hid (digit_any c w)
  rw [show digitB c = true from by first | assumption | (simp [digitB]; omega)] at HD
  have d7 := hs.cell 7 (.int .i64 (s.left : Nat)) (fun _ => rfl)
  have d10 := hs.cell 10 (.int .i64 (s.unit : Nat)) (fun _ => rfl)
  have d11 := hs.cell 11 (.bool s.pair) (fun _ => rfl)
  have f7 := hs.fz 7
  have f10 := hs.fz 10
  have HM := Lib.hid hs.mem
  have HS2 := Lib.hid ((hs.store 10 (.int .i64 (U : Nat)) { s with unit := U } (fun _ => rfl) rfl).store 7 (.int .i64 3) (sUnit s 3 U) (fun _ => rfl) rfl)
  rw [hl] at d7
  rw [hu] at d10
  rw [hp] at d11
  have k3 : 0 ≤ (u : Int) := by omega
  have k4 : (u : Int) ≤ 4095 := by omega
  have k5 : 0 ≤ (U : Int) := by omega
  have k6 : (U : Int) ≤ 65535 := by omega
  have k1 : 48 ≤ (c : Int) := by omega
  have k2 : (c : Int) ≤ 57 := by omega
  have hor : bits .or .i64 ((u : Int) * 16) ((c : Int) - 48) = (U : Int) := by
    have h := or_16 u (c - 48) hu2 (by omega)
    rw [hU, show ((c - 48 : Nat) : Int) = (c : Int) - 48 by omega] at h
    exact h
  clear hl hu hs h1 h2 hU hu2 hp 
  go_enter Tryd.func94, Tryd.ntmps94
  go_wp2_with fail
  refine HD.out.mono ?_
  rintro e w2 ⟨rfl, rfl⟩
  go_wp2_with fail
  go_quiet (fail)
  go_wp2_with fail
  go_ret
  exact ⟨rfl, S, HS2.out.drewN _, (((Keeps.refl _ w).setCell (p := ⟨g, 10, none⟩) (.inl HM.out) _).setCell (p := ⟨g, 7, none⟩) (.inl HM.out) _).drewN _, Fresh.refl _ _⟩

set_option maxRecDepth 100000 in
set_option maxHeartbeats 3000000 in
theorem hex_dec_4t (w : World) (S : Nat → Prop) (g : Nat) (s : Sc) (c u U : Nat) (h1 : 48 ≤ c) (h2 : c ≤ 57) (hU : 16 * u + (c - 48) = U) (hu : s.unit = u) (hu2 : u ≤ 4095) (hl : s.left = 4) (hp : s.pair = true) (hv : U = 13) (hs : ScAt w S g s) :
    Calls Tryd.prog 94 #[.pointer (some ⟨g, 0, none⟩), .int .u8 c] w (ScPost w S g (sUnit s 3 U, 0)) := by
  have hmf := mk_f
  have HD := Lib.hid (digit_any c w)
  rw [show digitB c = true from by first | assumption | (simp [digitB]; omega)] at HD
  have d7 := hs.cell 7 (.int .i64 (s.left : Nat)) (fun _ => rfl)
  have d10 := hs.cell 10 (.int .i64 (s.unit : Nat)) (fun _ => rfl)
  have d11 := hs.cell 11 (.bool s.pair) (fun _ => rfl)
  have f7 := hs.fz 7
  have f10 := hs.fz 10
  have HM := Lib.hid hs.mem
  have HS2 := Lib.hid ((hs.store 10 (.int .i64 (U : Nat)) { s with unit := U } (fun _ => rfl) rfl).store 7 (.int .i64 3) (sUnit s 3 U) (fun _ => rfl) rfl)
  rw [hl] at d7
  rw [hu] at d10
  rw [hp] at d11
  have k3 : 0 ≤ (u : Int) := by omega
  have k4 : (u : Int) ≤ 4095 := by omega
  have k5 : 0 ≤ (U : Int) := by omega
  have k6 : (U : Int) ≤ 65535 := by omega
  have k1 : 48 ≤ (c : Int) := by omega
  have k2 : (c : Int) ≤ 57 := by omega
  have hor : bits .or .i64 ((u : Int) * 16) ((c : Int) - 48) = (U : Int) := by
    have h := or_16 u (c - 48) hu2 (by omega)
    rw [hU, show ((c - 48 : Nat) : Int) = (c : Int) - 48 by omega] at h
    exact h
  have q1 : ((U : Int) != 13) = false := by rw [hv]; rfl
  clear hl hu hs h1 h2 hU hu2 hp hv
  go_enter Tryd.func94, Tryd.ntmps94
  go_wp2_with fail
  refine HD.out.mono ?_
  rintro e w2 ⟨rfl, rfl⟩
  go_wp2_with fail
  go_quiet (fail)
  go_wp2_with fail
  go_ret
  exact ⟨rfl, S, HS2.out.drewN _, (((Keeps.refl _ w).setCell (p := ⟨g, 10, none⟩) (.inl HM.out) _).setCell (p := ⟨g, 7, none⟩) (.inl HM.out) _).drewN _, Fresh.refl _ _⟩

set_option maxRecDepth 100000 in
set_option maxHeartbeats 3000000 in
theorem hex_dec_4n (w : World) (S : Nat → Prop) (g : Nat) (s : Sc) (c u U : Nat) (h1 : 48 ≤ c) (h2 : c ≤ 57) (hU : 16 * u + (c - 48) = U) (hu : s.unit = u) (hu2 : u ≤ 4095) (hl : s.left = 4) (hp : s.pair = true) (hv : U ≠ 13) (hs : ScAt w S g s) :
    Calls Tryd.prog 94 #[.pointer (some ⟨g, 0, none⟩), .int .u8 c] w (ScPost w S g (sUnit s 3 U, 3)) := by
  have hmf := mk_f
  have HD := Lib.hid (digit_any c w)
  rw [show digitB c = true from by first | assumption | (simp [digitB]; omega)] at HD
  have d7 := hs.cell 7 (.int .i64 (s.left : Nat)) (fun _ => rfl)
  have d10 := hs.cell 10 (.int .i64 (s.unit : Nat)) (fun _ => rfl)
  have d11 := hs.cell 11 (.bool s.pair) (fun _ => rfl)
  have f7 := hs.fz 7
  have f10 := hs.fz 10
  have HM := Lib.hid hs.mem
  have HS2 := Lib.hid ((hs.store 10 (.int .i64 (U : Nat)) { s with unit := U } (fun _ => rfl) rfl).store 7 (.int .i64 3) (sUnit s 3 U) (fun _ => rfl) rfl)
  rw [hl] at d7
  rw [hu] at d10
  rw [hp] at d11
  have k3 : 0 ≤ (u : Int) := by omega
  have k4 : (u : Int) ≤ 4095 := by omega
  have k5 : 0 ≤ (U : Int) := by omega
  have k6 : (U : Int) ≤ 65535 := by omega
  have k1 : 48 ≤ (c : Int) := by omega
  have k2 : (c : Int) ≤ 57 := by omega
  have hor : bits .or .i64 ((u : Int) * 16) ((c : Int) - 48) = (U : Int) := by
    have h := or_16 u (c - 48) hu2 (by omega)
    rw [hU, show ((c - 48 : Nat) : Int) = (c : Int) - 48 by omega] at h
    exact h
  have q1 : ((U : Int) != 13) = true := by rw [bne_iff_ne]; omega
  clear hl hu hs h1 h2 hU hu2 hp hv
  go_enter Tryd.func94, Tryd.ntmps94
  go_wp2_with fail
  refine HD.out.mono ?_
  rintro e w2 ⟨rfl, rfl⟩
  go_wp2_with fail
  go_ret
  exact ⟨rfl, S, HS2.out, ((Keeps.refl _ w).setCell (p := ⟨g, 10, none⟩) (.inl HM.out) _).setCell (p := ⟨g, 7, none⟩) (.inl HM.out) _, Fresh.refl _ _⟩

set_option maxRecDepth 100000 in
set_option maxHeartbeats 3000000 in
theorem hex_dec_3tt (w : World) (S : Nat → Prop) (g : Nat) (s : Sc) (c u U : Nat) (h1 : 48 ≤ c) (h2 : c ≤ 57) (hU : 16 * u + (c - 48) = U) (hu : s.unit = u) (hu2 : u ≤ 4095) (hl : s.left = 3) (hp : s.pair = true) (hv : U / 4 = 55) (hs : ScAt w S g s) :
    Calls Tryd.prog 94 #[.pointer (some ⟨g, 0, none⟩), .int .u8 c] w (ScPost w S g (sUnit s 2 U, 0)) := by
  have hmf := mk_f
  have HD := Lib.hid (digit_any c w)
  rw [show digitB c = true from by first | assumption | (simp [digitB]; omega)] at HD
  have d7 := hs.cell 7 (.int .i64 (s.left : Nat)) (fun _ => rfl)
  have d10 := hs.cell 10 (.int .i64 (s.unit : Nat)) (fun _ => rfl)
  have d11 := hs.cell 11 (.bool s.pair) (fun _ => rfl)
  have f7 := hs.fz 7
  have f10 := hs.fz 10
  have HM := Lib.hid hs.mem
  have HS2 := Lib.hid ((hs.store 10 (.int .i64 (U : Nat)) { s with unit := U } (fun _ => rfl) rfl).store 7 (.int .i64 2) (sUnit s 2 U) (fun _ => rfl) rfl)
  rw [hl] at d7
  rw [hu] at d10
  rw [hp] at d11
  have k3 : 0 ≤ (u : Int) := by omega
  have k4 : (u : Int) ≤ 4095 := by omega
  have k5 : 0 ≤ (U : Int) := by omega
  have k6 : (U : Int) ≤ 65535 := by omega
  have k1 : 48 ≤ (c : Int) := by omega
  have k2 : (c : Int) ≤ 57 := by omega
  have hor : bits .or .i64 ((u : Int) * 16) ((c : Int) - 48) = (U : Int) := by
    have h := or_16 u (c - 48) hu2 (by omega)
    rw [hU, show ((c - 48 : Nat) : Int) = (c : Int) - 48 by omega] at h
    exact h
  have q1 : ((U : Int) / 4 == 55) = true := by rw [beq_iff_eq]; omega
  clear hl hu hs h1 h2 hU hu2 hp hv
  go_enter Tryd.func94, Tryd.ntmps94
  go_wp2_with fail
  refine HD.out.mono ?_
  rintro e w2 ⟨rfl, rfl⟩
  go_wp2_with fail
  go_quiet (fail)
  go_wp2_with fail
  go_ret
  exact ⟨rfl, S, HS2.out.drewN _, (((Keeps.refl _ w).setCell (p := ⟨g, 10, none⟩) (.inl HM.out) _).setCell (p := ⟨g, 7, none⟩) (.inl HM.out) _).drewN _, Fresh.refl _ _⟩

set_option maxRecDepth 100000 in
set_option maxHeartbeats 3000000 in
theorem hex_dec_3tf (w : World) (S : Nat → Prop) (g : Nat) (s : Sc) (c u U : Nat) (h1 : 48 ≤ c) (h2 : c ≤ 57) (hU : 16 * u + (c - 48) = U) (hu : s.unit = u) (hu2 : u ≤ 4095) (hl : s.left = 3) (hp : s.pair = true) (hv : U / 4 ≠ 55) (hs : ScAt w S g s) :
    Calls Tryd.prog 94 #[.pointer (some ⟨g, 0, none⟩), .int .u8 c] w (ScPost w S g (sUnit s 2 U, 3)) := by
  have hmf := mk_f
  have HD := Lib.hid (digit_any c w)
  rw [show digitB c = true from by first | assumption | (simp [digitB]; omega)] at HD
  have d7 := hs.cell 7 (.int .i64 (s.left : Nat)) (fun _ => rfl)
  have d10 := hs.cell 10 (.int .i64 (s.unit : Nat)) (fun _ => rfl)
  have d11 := hs.cell 11 (.bool s.pair) (fun _ => rfl)
  have f7 := hs.fz 7
  have f10 := hs.fz 10
  have HM := Lib.hid hs.mem
  have HS2 := Lib.hid ((hs.store 10 (.int .i64 (U : Nat)) { s with unit := U } (fun _ => rfl) rfl).store 7 (.int .i64 2) (sUnit s 2 U) (fun _ => rfl) rfl)
  rw [hl] at d7
  rw [hu] at d10
  rw [hp] at d11
  have k3 : 0 ≤ (u : Int) := by omega
  have k4 : (u : Int) ≤ 4095 := by omega
  have k5 : 0 ≤ (U : Int) := by omega
  have k6 : (U : Int) ≤ 65535 := by omega
  have k1 : 48 ≤ (c : Int) := by omega
  have k2 : (c : Int) ≤ 57 := by omega
  have hor : bits .or .i64 ((u : Int) * 16) ((c : Int) - 48) = (U : Int) := by
    have h := or_16 u (c - 48) hu2 (by omega)
    rw [hU, show ((c - 48 : Nat) : Int) = (c : Int) - 48 by omega] at h
    exact h
  have q1 : ((U : Int) / 4 == 55) = false := by rw [beq_eq_false_iff_ne]; omega
  clear hl hu hs h1 h2 hU hu2 hp hv
  go_enter Tryd.func94, Tryd.ntmps94
  go_wp2_with fail
  refine HD.out.mono ?_
  rintro e w2 ⟨rfl, rfl⟩
  go_wp2_with fail
  go_quiet (fail)
  go_wp2_with fail
  go_ret
  exact ⟨rfl, S, HS2.out.drewN _, (((Keeps.refl _ w).setCell (p := ⟨g, 10, none⟩) (.inl HM.out) _).setCell (p := ⟨g, 7, none⟩) (.inl HM.out) _).drewN _, Fresh.refl _ _⟩

set_option maxRecDepth 100000 in
set_option maxHeartbeats 3000000 in
theorem hex_dec_3ft (w : World) (S : Nat → Prop) (g : Nat) (s : Sc) (c u U : Nat) (h1 : 48 ≤ c) (h2 : c ≤ 57) (hU : 16 * u + (c - 48) = U) (hu : s.unit = u) (hu2 : u ≤ 4095) (hl : s.left = 3) (hp : s.pair = false) (hv : U / 4 = 55) (hs : ScAt w S g s) :
    Calls Tryd.prog 94 #[.pointer (some ⟨g, 0, none⟩), .int .u8 c] w (ScPost w S g (sUnit s 2 U, 3)) := by
  have hmf := mk_f
  have HD := Lib.hid (digit_any c w)
  rw [show digitB c = true from by first | assumption | (simp [digitB]; omega)] at HD
  have d7 := hs.cell 7 (.int .i64 (s.left : Nat)) (fun _ => rfl)
  have d10 := hs.cell 10 (.int .i64 (s.unit : Nat)) (fun _ => rfl)
  have d11 := hs.cell 11 (.bool s.pair) (fun _ => rfl)
  have f7 := hs.fz 7
  have f10 := hs.fz 10
  have HM := Lib.hid hs.mem
  have HS2 := Lib.hid ((hs.store 10 (.int .i64 (U : Nat)) { s with unit := U } (fun _ => rfl) rfl).store 7 (.int .i64 2) (sUnit s 2 U) (fun _ => rfl) rfl)
  rw [hl] at d7
  rw [hu] at d10
  rw [hp] at d11
  have k3 : 0 ≤ (u : Int) := by omega
  have k4 : (u : Int) ≤ 4095 := by omega
  have k5 : 0 ≤ (U : Int) := by omega
  have k6 : (U : Int) ≤ 65535 := by omega
  have k1 : 48 ≤ (c : Int) := by omega
  have k2 : (c : Int) ≤ 57 := by omega
  have hor : bits .or .i64 ((u : Int) * 16) ((c : Int) - 48) = (U : Int) := by
    have h := or_16 u (c - 48) hu2 (by omega)
    rw [hU, show ((c - 48 : Nat) : Int) = (c : Int) - 48 by omega] at h
    exact h
  have q1 : ((U : Int) / 4 == 55) = true := by rw [beq_iff_eq]; omega
  clear hl hu hs h1 h2 hU hu2 hp hv
  go_enter Tryd.func94, Tryd.ntmps94
  go_wp2_with fail
  refine HD.out.mono ?_
  rintro e w2 ⟨rfl, rfl⟩
  go_wp2_with fail
  go_quiet (fail)
  go_wp2_with fail
  go_ret
  exact ⟨rfl, S, HS2.out.drewN _, (((Keeps.refl _ w).setCell (p := ⟨g, 10, none⟩) (.inl HM.out) _).setCell (p := ⟨g, 7, none⟩) (.inl HM.out) _).drewN _, Fresh.refl _ _⟩

set_option maxRecDepth 100000 in
set_option maxHeartbeats 3000000 in
theorem hex_dec_3ff (w : World) (S : Nat → Prop) (g : Nat) (s : Sc) (c u U : Nat) (h1 : 48 ≤ c) (h2 : c ≤ 57) (hU : 16 * u + (c - 48) = U) (hu : s.unit = u) (hu2 : u ≤ 4095) (hl : s.left = 3) (hp : s.pair = false) (hv : U / 4 ≠ 55) (hs : ScAt w S g s) :
    Calls Tryd.prog 94 #[.pointer (some ⟨g, 0, none⟩), .int .u8 c] w (ScPost w S g (sUnit s 2 U, 0)) := by
  have hmf := mk_f
  have HD := Lib.hid (digit_any c w)
  rw [show digitB c = true from by first | assumption | (simp [digitB]; omega)] at HD
  have d7 := hs.cell 7 (.int .i64 (s.left : Nat)) (fun _ => rfl)
  have d10 := hs.cell 10 (.int .i64 (s.unit : Nat)) (fun _ => rfl)
  have d11 := hs.cell 11 (.bool s.pair) (fun _ => rfl)
  have f7 := hs.fz 7
  have f10 := hs.fz 10
  have HM := Lib.hid hs.mem
  have HS2 := Lib.hid ((hs.store 10 (.int .i64 (U : Nat)) { s with unit := U } (fun _ => rfl) rfl).store 7 (.int .i64 2) (sUnit s 2 U) (fun _ => rfl) rfl)
  rw [hl] at d7
  rw [hu] at d10
  rw [hp] at d11
  have k3 : 0 ≤ (u : Int) := by omega
  have k4 : (u : Int) ≤ 4095 := by omega
  have k5 : 0 ≤ (U : Int) := by omega
  have k6 : (U : Int) ≤ 65535 := by omega
  have k1 : 48 ≤ (c : Int) := by omega
  have k2 : (c : Int) ≤ 57 := by omega
  have hor : bits .or .i64 ((u : Int) * 16) ((c : Int) - 48) = (U : Int) := by
    have h := or_16 u (c - 48) hu2 (by omega)
    rw [hU, show ((c - 48 : Nat) : Int) = (c : Int) - 48 by omega] at h
    exact h
  have q1 : ((U : Int) / 4 == 55) = false := by rw [beq_eq_false_iff_ne]; omega
  clear hl hu hs h1 h2 hU hu2 hp hv
  go_enter Tryd.func94, Tryd.ntmps94
  go_wp2_with fail
  refine HD.out.mono ?_
  rintro e w2 ⟨rfl, rfl⟩
  go_wp2_with fail
  go_quiet (fail)
  go_wp2_with fail
  go_ret
  exact ⟨rfl, S, HS2.out.drewN _, (((Keeps.refl _ w).setCell (p := ⟨g, 10, none⟩) (.inl HM.out) _).setCell (p := ⟨g, 7, none⟩) (.inl HM.out) _).drewN _, Fresh.refl _ _⟩

set_option maxRecDepth 100000 in
set_option maxHeartbeats 3000000 in
theorem hex_dec_2 (w : World) (S : Nat → Prop) (g : Nat) (s : Sc) (c u U : Nat) (h1 : 48 ≤ c) (h2 : c ≤ 57) (hU : 16 * u + (c - 48) = U) (hu : s.unit = u) (hu2 : u ≤ 4095) (hl : s.left = 2) (hs : ScAt w S g s) :
    Calls Tryd.prog 94 #[.pointer (some ⟨g, 0, none⟩), .int .u8 c] w (ScPost w S g (sUnit s 1 U, 0)) := by
  have hmf := mk_f
  have HD := Lib.hid (digit_any c w)
  rw [show digitB c = true from by first | assumption | (simp [digitB]; omega)] at HD
  have d7 := hs.cell 7 (.int .i64 (s.left : Nat)) (fun _ => rfl)
  have d10 := hs.cell 10 (.int .i64 (s.unit : Nat)) (fun _ => rfl)
  have d11 := hs.cell 11 (.bool s.pair) (fun _ => rfl)
  have f7 := hs.fz 7
  have f10 := hs.fz 10
  have HM := Lib.hid hs.mem
  have HS2 := Lib.hid ((hs.store 10 (.int .i64 (U : Nat)) { s with unit := U } (fun _ => rfl) rfl).store 7 (.int .i64 1) (sUnit s 1 U) (fun _ => rfl) rfl)
  rw [hl] at d7
  rw [hu] at d10
  have k3 : 0 ≤ (u : Int) := by omega
  have k4 : (u : Int) ≤ 4095 := by omega
  have k5 : 0 ≤ (U : Int) := by omega
  have k6 : (U : Int) ≤ 65535 := by omega
  have k1 : 48 ≤ (c : Int) := by omega
  have k2 : (c : Int) ≤ 57 := by omega
  have hor : bits .or .i64 ((u : Int) * 16) ((c : Int) - 48) = (U : Int) := by
    have h := or_16 u (c - 48) hu2 (by omega)
    rw [hU, show ((c - 48 : Nat) : Int) = (c : Int) - 48 by omega] at h
    exact h
  clear hl hu hs h1 h2 hU hu2  
  generalize s.pair = P at *
  go_enter Tryd.func94, Tryd.ntmps94
  go_wp2_with fail
  refine HD.out.mono ?_
  rintro e w2 ⟨rfl, rfl⟩
  go_wp2_with fail
  go_quiet (fail)
  go_wp2_with fail
  go_ret
  exact ⟨rfl, S, HS2.out.drewN _, (((Keeps.refl _ w).setCell (p := ⟨g, 10, none⟩) (.inl HM.out) _).setCell (p := ⟨g, 7, none⟩) (.inl HM.out) _).drewN _, Fresh.refl _ _⟩

set_option maxRecDepth 100000 in
set_option maxHeartbeats 3000000 in
theorem hex_dec_1s (w : World) (S : Nat → Prop) (g : Nat) (s : Sc) (c u U : Nat) (h1 : 48 ≤ c) (h2 : c ≤ 57) (hU : 16 * u + (c - 48) = U) (hu : s.unit = u) (hu2 : u ≤ 4095) (hl : s.left = 1) (hv : U / 1024 = 54) (hs : ScAt w S g s) :
    Calls Tryd.prog 94 #[.pointer (some ⟨g, 0, none⟩), .int .u8 c] w (ScPost w S g (sTo (sUnit s 0 U) jSecond false, 0)) := by
  have hmf := mk_f
  have HD := Lib.hid (digit_any c w)
  rw [show digitB c = true from by first | assumption | (simp [digitB]; omega)] at HD
  have d7 := hs.cell 7 (.int .i64 (s.left : Nat)) (fun _ => rfl)
  have d10 := hs.cell 10 (.int .i64 (s.unit : Nat)) (fun _ => rfl)
  have d11 := hs.cell 11 (.bool s.pair) (fun _ => rfl)
  have f7 := hs.fz 7
  have f10 := hs.fz 10
  have HM := Lib.hid hs.mem
  have HS2 := Lib.hid ((hs.store 10 (.int .i64 (U : Nat)) { s with unit := U } (fun _ => rfl) rfl).store 7 (.int .i64 0) (sUnit s 0 U) (fun _ => rfl) rfl)
  have HT := Lib.hid (fun n => to_any _ S g _ jSecond false (HS2.out.drewN n))
  unfold jSecond at HT
  rw [hl] at d7
  rw [hu] at d10
  have k3 : 0 ≤ (u : Int) := by omega
  have k4 : (u : Int) ≤ 4095 := by omega
  have k5 : 0 ≤ (U : Int) := by omega
  have k6 : (U : Int) ≤ 65535 := by omega
  have k1 : 48 ≤ (c : Int) := by omega
  have k2 : (c : Int) ≤ 57 := by omega
  have hor : bits .or .i64 ((u : Int) * 16) ((c : Int) - 48) = (U : Int) := by
    have h := or_16 u (c - 48) hu2 (by omega)
    rw [hU, show ((c - 48 : Nat) : Int) = (c : Int) - 48 by omega] at h
    exact h
  have q1 : ((U : Int) / 1024 == 54) = true := by rw [beq_iff_eq]; omega
  clear hl hu hs h1 h2 hU hu2  hv
  generalize s.pair = P at *
  go_enter Tryd.func94, Tryd.ntmps94
  go_wp2_with fail
  refine HD.out.mono ?_
  rintro e w2 ⟨rfl, rfl⟩
  go_wp2_with fail
  go_quiet (fail)
  go_wp2_with fail
  refine (HT.out _).mono ?_
  rintro e w2 ⟨rfl, h2⟩
  have H2 := Lib.hid h2
  clear h2
  go_wp2_with fail
  go_ret
  exact ScPost.after ((((Keeps.refl _ w).setCell (p := ⟨g, 10, none⟩) (.inl HM.out) _).setCell (p := ⟨g, 7, none⟩) (.inl HM.out) _).drewN _) (Fresh.refl _ _) ⟨rfl, H2.out⟩

set_option maxRecDepth 100000 in
set_option maxHeartbeats 3000000 in
theorem hex_dec_1e (w : World) (S : Nat → Prop) (g : Nat) (s : Sc) (c u U : Nat) (h1 : 48 ≤ c) (h2 : c ≤ 57) (hU : 16 * u + (c - 48) = U) (hu : s.unit = u) (hu2 : u ≤ 4095) (hl : s.left = 1) (hv : U / 1024 ≠ 54) (hs : ScAt w S g s) :
    Calls Tryd.prog 94 #[.pointer (some ⟨g, 0, none⟩), .int .u8 c] w (ScPost w S g (sTo (sUnit s 0 U) jText false, 0)) := by
  have hmf := mk_f
  have HD := Lib.hid (digit_any c w)
  rw [show digitB c = true from by first | assumption | (simp [digitB]; omega)] at HD
  have d7 := hs.cell 7 (.int .i64 (s.left : Nat)) (fun _ => rfl)
  have d10 := hs.cell 10 (.int .i64 (s.unit : Nat)) (fun _ => rfl)
  have d11 := hs.cell 11 (.bool s.pair) (fun _ => rfl)
  have f7 := hs.fz 7
  have f10 := hs.fz 10
  have HM := Lib.hid hs.mem
  have HS2 := Lib.hid ((hs.store 10 (.int .i64 (U : Nat)) { s with unit := U } (fun _ => rfl) rfl).store 7 (.int .i64 0) (sUnit s 0 U) (fun _ => rfl) rfl)
  have HT := Lib.hid (fun n => to_any _ S g _ jText false (HS2.out.drewN n))
  unfold jText at HT
  rw [hl] at d7
  rw [hu] at d10
  have k3 : 0 ≤ (u : Int) := by omega
  have k4 : (u : Int) ≤ 4095 := by omega
  have k5 : 0 ≤ (U : Int) := by omega
  have k6 : (U : Int) ≤ 65535 := by omega
  have k1 : 48 ≤ (c : Int) := by omega
  have k2 : (c : Int) ≤ 57 := by omega
  have hor : bits .or .i64 ((u : Int) * 16) ((c : Int) - 48) = (U : Int) := by
    have h := or_16 u (c - 48) hu2 (by omega)
    rw [hU, show ((c - 48 : Nat) : Int) = (c : Int) - 48 by omega] at h
    exact h
  have q1 : ((U : Int) / 1024 == 54) = false := by rw [beq_eq_false_iff_ne]; omega
  clear hl hu hs h1 h2 hU hu2  hv
  generalize s.pair = P at *
  go_enter Tryd.func94, Tryd.ntmps94
  go_wp2_with fail
  refine HD.out.mono ?_
  rintro e w2 ⟨rfl, rfl⟩
  go_wp2_with fail
  go_quiet (fail)
  go_wp2_with fail
  refine (HT.out _).mono ?_
  rintro e w2 ⟨rfl, h2⟩
  have H2 := Lib.hid h2
  clear h2
  go_wp2_with fail
  go_ret
  exact ScPost.after ((((Keeps.refl _ w).setCell (p := ⟨g, 10, none⟩) (.inl HM.out) _).setCell (p := ⟨g, 7, none⟩) (.inl HM.out) _).drewN _) (Fresh.refl _ _) ⟨rfl, H2.out⟩

set_option maxRecDepth 100000 in
set_option maxHeartbeats 3000000 in
theorem hex_let_4f (w : World) (S : Nat → Prop) (g : Nat) (s : Sc) (c u e U : Nat) (hd : digitB c = false) (he : bits .or .u8 (c : Int) 32 = ((e : Nat) : Int)) (h1 : 97 ≤ e) (h2 : e ≤ 102) (hU : 16 * u + (e - 87) = U) (hu : s.unit = u) (hu2 : u ≤ 4095) (hl : s.left = 4) (hp : s.pair = false) (hs : ScAt w S g s) :
    Calls Tryd.prog 94 #[.pointer (some ⟨g, 0, none⟩), .int .u8 c] w (ScPost w S g (sUnit s 3 U, 0)) := by
  have hmf := mk_f
  have HD := Lib.hid (digit_any c w)
  rw [show digitB c = false from by first | assumption | (simp [digitB]; omega)] at HD
  have d7 := hs.cell 7 (.int .i64 (s.left : Nat)) (fun _ => rfl)
  have d10 := hs.cell 10 (.int .i64 (s.unit : Nat)) (fun _ => rfl)
  have d11 := hs.cell 11 (.bool s.pair) (fun _ => rfl)
  have f7 := hs.fz 7
  have f10 := hs.fz 10
  have HM := Lib.hid hs.mem
  have HS2 := Lib.hid ((hs.store 10 (.int .i64 (U : Nat)) { s with unit := U } (fun _ => rfl) rfl).store 7 (.int .i64 3) (sUnit s 3 U) (fun _ => rfl) rfl)
  rw [hl] at d7
  rw [hu] at d10
  rw [hp] at d11
  have k3 : 0 ≤ (u : Int) := by omega
  have k4 : (u : Int) ≤ 4095 := by omega
  have k5 : 0 ≤ (U : Int) := by omega
  have k6 : (U : Int) ≤ 65535 := by omega
  have k1 : 97 ≤ (e : Int) := by omega
  have k2 : (e : Int) ≤ 102 := by omega
  have hor : bits .or .i64 ((u : Int) * 16) ((e : Int) - 97 + 10) = (U : Int) := by
    have h := or_16 u (e - 87) hu2 (by omega)
    rw [hU, show ((e - 87 : Nat) : Int) = (e : Int) - 97 + 10 by omega] at h
    exact h
  clear hl hu hs h1 h2 hU hu2 hp  hd
  go_enter Tryd.func94, Tryd.ntmps94
  go_wp2_with fail
  refine HD.out.mono ?_
  rintro e w2 ⟨rfl, rfl⟩
  go_wp2_with fail
  go_quiet (fail)
  go_wp2_with fail
  go_ret
  exact ⟨rfl, S, HS2.out.drewN _, (((Keeps.refl _ w).setCell (p := ⟨g, 10, none⟩) (.inl HM.out) _).setCell (p := ⟨g, 7, none⟩) (.inl HM.out) _).drewN _, Fresh.refl _ _⟩

set_option maxRecDepth 100000 in
set_option maxHeartbeats 3000000 in
theorem hex_let_4t (w : World) (S : Nat → Prop) (g : Nat) (s : Sc) (c u e U : Nat) (hd : digitB c = false) (he : bits .or .u8 (c : Int) 32 = ((e : Nat) : Int)) (h1 : 97 ≤ e) (h2 : e ≤ 102) (hU : 16 * u + (e - 87) = U) (hu : s.unit = u) (hu2 : u ≤ 4095) (hl : s.left = 4) (hp : s.pair = true) (hv : U = 13) (hs : ScAt w S g s) :
    Calls Tryd.prog 94 #[.pointer (some ⟨g, 0, none⟩), .int .u8 c] w (ScPost w S g (sUnit s 3 U, 0)) := by
  have hmf := mk_f
  have HD := Lib.hid (digit_any c w)
  rw [show digitB c = false from by first | assumption | (simp [digitB]; omega)] at HD
  have d7 := hs.cell 7 (.int .i64 (s.left : Nat)) (fun _ => rfl)
  have d10 := hs.cell 10 (.int .i64 (s.unit : Nat)) (fun _ => rfl)
  have d11 := hs.cell 11 (.bool s.pair) (fun _ => rfl)
  have f7 := hs.fz 7
  have f10 := hs.fz 10
  have HM := Lib.hid hs.mem
  have HS2 := Lib.hid ((hs.store 10 (.int .i64 (U : Nat)) { s with unit := U } (fun _ => rfl) rfl).store 7 (.int .i64 3) (sUnit s 3 U) (fun _ => rfl) rfl)
  rw [hl] at d7
  rw [hu] at d10
  rw [hp] at d11
  have k3 : 0 ≤ (u : Int) := by omega
  have k4 : (u : Int) ≤ 4095 := by omega
  have k5 : 0 ≤ (U : Int) := by omega
  have k6 : (U : Int) ≤ 65535 := by omega
  have k1 : 97 ≤ (e : Int) := by omega
  have k2 : (e : Int) ≤ 102 := by omega
  have hor : bits .or .i64 ((u : Int) * 16) ((e : Int) - 97 + 10) = (U : Int) := by
    have h := or_16 u (e - 87) hu2 (by omega)
    rw [hU, show ((e - 87 : Nat) : Int) = (e : Int) - 97 + 10 by omega] at h
    exact h
  have q1 : ((U : Int) != 13) = false := by rw [hv]; rfl
  clear hl hu hs h1 h2 hU hu2 hp hv hd
  go_enter Tryd.func94, Tryd.ntmps94
  go_wp2_with fail
  refine HD.out.mono ?_
  rintro e w2 ⟨rfl, rfl⟩
  go_wp2_with fail
  go_quiet (fail)
  go_wp2_with fail
  go_ret
  exact ⟨rfl, S, HS2.out.drewN _, (((Keeps.refl _ w).setCell (p := ⟨g, 10, none⟩) (.inl HM.out) _).setCell (p := ⟨g, 7, none⟩) (.inl HM.out) _).drewN _, Fresh.refl _ _⟩

set_option maxRecDepth 100000 in
set_option maxHeartbeats 3000000 in
theorem hex_let_4n (w : World) (S : Nat → Prop) (g : Nat) (s : Sc) (c u e U : Nat) (hd : digitB c = false) (he : bits .or .u8 (c : Int) 32 = ((e : Nat) : Int)) (h1 : 97 ≤ e) (h2 : e ≤ 102) (hU : 16 * u + (e - 87) = U) (hu : s.unit = u) (hu2 : u ≤ 4095) (hl : s.left = 4) (hp : s.pair = true) (hv : U ≠ 13) (hs : ScAt w S g s) :
    Calls Tryd.prog 94 #[.pointer (some ⟨g, 0, none⟩), .int .u8 c] w (ScPost w S g (sUnit s 3 U, 3)) := by
  have hmf := mk_f
  have HD := Lib.hid (digit_any c w)
  rw [show digitB c = false from by first | assumption | (simp [digitB]; omega)] at HD
  have d7 := hs.cell 7 (.int .i64 (s.left : Nat)) (fun _ => rfl)
  have d10 := hs.cell 10 (.int .i64 (s.unit : Nat)) (fun _ => rfl)
  have d11 := hs.cell 11 (.bool s.pair) (fun _ => rfl)
  have f7 := hs.fz 7
  have f10 := hs.fz 10
  have HM := Lib.hid hs.mem
  have HS2 := Lib.hid ((hs.store 10 (.int .i64 (U : Nat)) { s with unit := U } (fun _ => rfl) rfl).store 7 (.int .i64 3) (sUnit s 3 U) (fun _ => rfl) rfl)
  rw [hl] at d7
  rw [hu] at d10
  rw [hp] at d11
  have k3 : 0 ≤ (u : Int) := by omega
  have k4 : (u : Int) ≤ 4095 := by omega
  have k5 : 0 ≤ (U : Int) := by omega
  have k6 : (U : Int) ≤ 65535 := by omega
  have k1 : 97 ≤ (e : Int) := by omega
  have k2 : (e : Int) ≤ 102 := by omega
  have hor : bits .or .i64 ((u : Int) * 16) ((e : Int) - 97 + 10) = (U : Int) := by
    have h := or_16 u (e - 87) hu2 (by omega)
    rw [hU, show ((e - 87 : Nat) : Int) = (e : Int) - 97 + 10 by omega] at h
    exact h
  have q1 : ((U : Int) != 13) = true := by rw [bne_iff_ne]; omega
  clear hl hu hs h1 h2 hU hu2 hp hv hd
  go_enter Tryd.func94, Tryd.ntmps94
  go_wp2_with fail
  refine HD.out.mono ?_
  rintro e w2 ⟨rfl, rfl⟩
  go_wp2_with fail
  go_ret
  exact ⟨rfl, S, HS2.out, ((Keeps.refl _ w).setCell (p := ⟨g, 10, none⟩) (.inl HM.out) _).setCell (p := ⟨g, 7, none⟩) (.inl HM.out) _, Fresh.refl _ _⟩

set_option maxRecDepth 100000 in
set_option maxHeartbeats 3000000 in
theorem hex_let_3tt (w : World) (S : Nat → Prop) (g : Nat) (s : Sc) (c u e U : Nat) (hd : digitB c = false) (he : bits .or .u8 (c : Int) 32 = ((e : Nat) : Int)) (h1 : 97 ≤ e) (h2 : e ≤ 102) (hU : 16 * u + (e - 87) = U) (hu : s.unit = u) (hu2 : u ≤ 4095) (hl : s.left = 3) (hp : s.pair = true) (hv : U / 4 = 55) (hs : ScAt w S g s) :
    Calls Tryd.prog 94 #[.pointer (some ⟨g, 0, none⟩), .int .u8 c] w (ScPost w S g (sUnit s 2 U, 0)) := by
  have hmf := mk_f
  have HD := Lib.hid (digit_any c w)
  rw [show digitB c = false from by first | assumption | (simp [digitB]; omega)] at HD
  have d7 := hs.cell 7 (.int .i64 (s.left : Nat)) (fun _ => rfl)
  have d10 := hs.cell 10 (.int .i64 (s.unit : Nat)) (fun _ => rfl)
  have d11 := hs.cell 11 (.bool s.pair) (fun _ => rfl)
  have f7 := hs.fz 7
  have f10 := hs.fz 10
  have HM := Lib.hid hs.mem
  have HS2 := Lib.hid ((hs.store 10 (.int .i64 (U : Nat)) { s with unit := U } (fun _ => rfl) rfl).store 7 (.int .i64 2) (sUnit s 2 U) (fun _ => rfl) rfl)
  rw [hl] at d7
  rw [hu] at d10
  rw [hp] at d11
  have k3 : 0 ≤ (u : Int) := by omega
  have k4 : (u : Int) ≤ 4095 := by omega
  have k5 : 0 ≤ (U : Int) := by omega
  have k6 : (U : Int) ≤ 65535 := by omega
  have k1 : 97 ≤ (e : Int) := by omega
  have k2 : (e : Int) ≤ 102 := by omega
  have hor : bits .or .i64 ((u : Int) * 16) ((e : Int) - 97 + 10) = (U : Int) := by
    have h := or_16 u (e - 87) hu2 (by omega)
    rw [hU, show ((e - 87 : Nat) : Int) = (e : Int) - 97 + 10 by omega] at h
    exact h
  have q1 : ((U : Int) / 4 == 55) = true := by rw [beq_iff_eq]; omega
  clear hl hu hs h1 h2 hU hu2 hp hv hd
  go_enter Tryd.func94, Tryd.ntmps94
  go_wp2_with fail
  refine HD.out.mono ?_
  rintro e w2 ⟨rfl, rfl⟩
  go_wp2_with fail
  go_quiet (fail)
  go_wp2_with fail
  go_ret
  exact ⟨rfl, S, HS2.out.drewN _, (((Keeps.refl _ w).setCell (p := ⟨g, 10, none⟩) (.inl HM.out) _).setCell (p := ⟨g, 7, none⟩) (.inl HM.out) _).drewN _, Fresh.refl _ _⟩

set_option maxRecDepth 100000 in
set_option maxHeartbeats 3000000 in
theorem hex_let_3tf (w : World) (S : Nat → Prop) (g : Nat) (s : Sc) (c u e U : Nat) (hd : digitB c = false) (he : bits .or .u8 (c : Int) 32 = ((e : Nat) : Int)) (h1 : 97 ≤ e) (h2 : e ≤ 102) (hU : 16 * u + (e - 87) = U) (hu : s.unit = u) (hu2 : u ≤ 4095) (hl : s.left = 3) (hp : s.pair = true) (hv : U / 4 ≠ 55) (hs : ScAt w S g s) :
    Calls Tryd.prog 94 #[.pointer (some ⟨g, 0, none⟩), .int .u8 c] w (ScPost w S g (sUnit s 2 U, 3)) := by
  have hmf := mk_f
  have HD := Lib.hid (digit_any c w)
  rw [show digitB c = false from by first | assumption | (simp [digitB]; omega)] at HD
  have d7 := hs.cell 7 (.int .i64 (s.left : Nat)) (fun _ => rfl)
  have d10 := hs.cell 10 (.int .i64 (s.unit : Nat)) (fun _ => rfl)
  have d11 := hs.cell 11 (.bool s.pair) (fun _ => rfl)
  have f7 := hs.fz 7
  have f10 := hs.fz 10
  have HM := Lib.hid hs.mem
  have HS2 := Lib.hid ((hs.store 10 (.int .i64 (U : Nat)) { s with unit := U } (fun _ => rfl) rfl).store 7 (.int .i64 2) (sUnit s 2 U) (fun _ => rfl) rfl)
  rw [hl] at d7
  rw [hu] at d10
  rw [hp] at d11
  have k3 : 0 ≤ (u : Int) := by omega
  have k4 : (u : Int) ≤ 4095 := by omega
  have k5 : 0 ≤ (U : Int) := by omega
  have k6 : (U : Int) ≤ 65535 := by omega
  have k1 : 97 ≤ (e : Int) := by omega
  have k2 : (e : Int) ≤ 102 := by omega
  have hor : bits .or .i64 ((u : Int) * 16) ((e : Int) - 97 + 10) = (U : Int) := by
    have h := or_16 u (e - 87) hu2 (by omega)
    rw [hU, show ((e - 87 : Nat) : Int) = (e : Int) - 97 + 10 by omega] at h
    exact h
  have q1 : ((U : Int) / 4 == 55) = false := by rw [beq_eq_false_iff_ne]; omega
  clear hl hu hs h1 h2 hU hu2 hp hv hd
  go_enter Tryd.func94, Tryd.ntmps94
  go_wp2_with fail
  refine HD.out.mono ?_
  rintro e w2 ⟨rfl, rfl⟩
  go_wp2_with fail
  go_quiet (fail)
  go_wp2_with fail
  go_ret
  exact ⟨rfl, S, HS2.out.drewN _, (((Keeps.refl _ w).setCell (p := ⟨g, 10, none⟩) (.inl HM.out) _).setCell (p := ⟨g, 7, none⟩) (.inl HM.out) _).drewN _, Fresh.refl _ _⟩

set_option maxRecDepth 100000 in
set_option maxHeartbeats 3000000 in
theorem hex_let_3ft (w : World) (S : Nat → Prop) (g : Nat) (s : Sc) (c u e U : Nat) (hd : digitB c = false) (he : bits .or .u8 (c : Int) 32 = ((e : Nat) : Int)) (h1 : 97 ≤ e) (h2 : e ≤ 102) (hU : 16 * u + (e - 87) = U) (hu : s.unit = u) (hu2 : u ≤ 4095) (hl : s.left = 3) (hp : s.pair = false) (hv : U / 4 = 55) (hs : ScAt w S g s) :
    Calls Tryd.prog 94 #[.pointer (some ⟨g, 0, none⟩), .int .u8 c] w (ScPost w S g (sUnit s 2 U, 3)) := by
  have hmf := mk_f
  have HD := Lib.hid (digit_any c w)
  rw [show digitB c = false from by first | assumption | (simp [digitB]; omega)] at HD
  have d7 := hs.cell 7 (.int .i64 (s.left : Nat)) (fun _ => rfl)
  have d10 := hs.cell 10 (.int .i64 (s.unit : Nat)) (fun _ => rfl)
  have d11 := hs.cell 11 (.bool s.pair) (fun _ => rfl)
  have f7 := hs.fz 7
  have f10 := hs.fz 10
  have HM := Lib.hid hs.mem
  have HS2 := Lib.hid ((hs.store 10 (.int .i64 (U : Nat)) { s with unit := U } (fun _ => rfl) rfl).store 7 (.int .i64 2) (sUnit s 2 U) (fun _ => rfl) rfl)
  rw [hl] at d7
  rw [hu] at d10
  rw [hp] at d11
  have k3 : 0 ≤ (u : Int) := by omega
  have k4 : (u : Int) ≤ 4095 := by omega
  have k5 : 0 ≤ (U : Int) := by omega
  have k6 : (U : Int) ≤ 65535 := by omega
  have k1 : 97 ≤ (e : Int) := by omega
  have k2 : (e : Int) ≤ 102 := by omega
  have hor : bits .or .i64 ((u : Int) * 16) ((e : Int) - 97 + 10) = (U : Int) := by
    have h := or_16 u (e - 87) hu2 (by omega)
    rw [hU, show ((e - 87 : Nat) : Int) = (e : Int) - 97 + 10 by omega] at h
    exact h
  have q1 : ((U : Int) / 4 == 55) = true := by rw [beq_iff_eq]; omega
  clear hl hu hs h1 h2 hU hu2 hp hv hd
  go_enter Tryd.func94, Tryd.ntmps94
  go_wp2_with fail
  refine HD.out.mono ?_
  rintro e w2 ⟨rfl, rfl⟩
  go_wp2_with fail
  go_quiet (fail)
  go_wp2_with fail
  go_ret
  exact ⟨rfl, S, HS2.out.drewN _, (((Keeps.refl _ w).setCell (p := ⟨g, 10, none⟩) (.inl HM.out) _).setCell (p := ⟨g, 7, none⟩) (.inl HM.out) _).drewN _, Fresh.refl _ _⟩

set_option maxRecDepth 100000 in
set_option maxHeartbeats 3000000 in
theorem hex_let_3ff (w : World) (S : Nat → Prop) (g : Nat) (s : Sc) (c u e U : Nat) (hd : digitB c = false) (he : bits .or .u8 (c : Int) 32 = ((e : Nat) : Int)) (h1 : 97 ≤ e) (h2 : e ≤ 102) (hU : 16 * u + (e - 87) = U) (hu : s.unit = u) (hu2 : u ≤ 4095) (hl : s.left = 3) (hp : s.pair = false) (hv : U / 4 ≠ 55) (hs : ScAt w S g s) :
    Calls Tryd.prog 94 #[.pointer (some ⟨g, 0, none⟩), .int .u8 c] w (ScPost w S g (sUnit s 2 U, 0)) := by
  have hmf := mk_f
  have HD := Lib.hid (digit_any c w)
  rw [show digitB c = false from by first | assumption | (simp [digitB]; omega)] at HD
  have d7 := hs.cell 7 (.int .i64 (s.left : Nat)) (fun _ => rfl)
  have d10 := hs.cell 10 (.int .i64 (s.unit : Nat)) (fun _ => rfl)
  have d11 := hs.cell 11 (.bool s.pair) (fun _ => rfl)
  have f7 := hs.fz 7
  have f10 := hs.fz 10
  have HM := Lib.hid hs.mem
  have HS2 := Lib.hid ((hs.store 10 (.int .i64 (U : Nat)) { s with unit := U } (fun _ => rfl) rfl).store 7 (.int .i64 2) (sUnit s 2 U) (fun _ => rfl) rfl)
  rw [hl] at d7
  rw [hu] at d10
  rw [hp] at d11
  have k3 : 0 ≤ (u : Int) := by omega
  have k4 : (u : Int) ≤ 4095 := by omega
  have k5 : 0 ≤ (U : Int) := by omega
  have k6 : (U : Int) ≤ 65535 := by omega
  have k1 : 97 ≤ (e : Int) := by omega
  have k2 : (e : Int) ≤ 102 := by omega
  have hor : bits .or .i64 ((u : Int) * 16) ((e : Int) - 97 + 10) = (U : Int) := by
    have h := or_16 u (e - 87) hu2 (by omega)
    rw [hU, show ((e - 87 : Nat) : Int) = (e : Int) - 97 + 10 by omega] at h
    exact h
  have q1 : ((U : Int) / 4 == 55) = false := by rw [beq_eq_false_iff_ne]; omega
  clear hl hu hs h1 h2 hU hu2 hp hv hd
  go_enter Tryd.func94, Tryd.ntmps94
  go_wp2_with fail
  refine HD.out.mono ?_
  rintro e w2 ⟨rfl, rfl⟩
  go_wp2_with fail
  go_quiet (fail)
  go_wp2_with fail
  go_ret
  exact ⟨rfl, S, HS2.out.drewN _, (((Keeps.refl _ w).setCell (p := ⟨g, 10, none⟩) (.inl HM.out) _).setCell (p := ⟨g, 7, none⟩) (.inl HM.out) _).drewN _, Fresh.refl _ _⟩

set_option maxRecDepth 100000 in
set_option maxHeartbeats 3000000 in
theorem hex_let_2 (w : World) (S : Nat → Prop) (g : Nat) (s : Sc) (c u e U : Nat) (hd : digitB c = false) (he : bits .or .u8 (c : Int) 32 = ((e : Nat) : Int)) (h1 : 97 ≤ e) (h2 : e ≤ 102) (hU : 16 * u + (e - 87) = U) (hu : s.unit = u) (hu2 : u ≤ 4095) (hl : s.left = 2) (hs : ScAt w S g s) :
    Calls Tryd.prog 94 #[.pointer (some ⟨g, 0, none⟩), .int .u8 c] w (ScPost w S g (sUnit s 1 U, 0)) := by
  have hmf := mk_f
  have HD := Lib.hid (digit_any c w)
  rw [show digitB c = false from by first | assumption | (simp [digitB]; omega)] at HD
  have d7 := hs.cell 7 (.int .i64 (s.left : Nat)) (fun _ => rfl)
  have d10 := hs.cell 10 (.int .i64 (s.unit : Nat)) (fun _ => rfl)
  have d11 := hs.cell 11 (.bool s.pair) (fun _ => rfl)
  have f7 := hs.fz 7
  have f10 := hs.fz 10
  have HM := Lib.hid hs.mem
  have HS2 := Lib.hid ((hs.store 10 (.int .i64 (U : Nat)) { s with unit := U } (fun _ => rfl) rfl).store 7 (.int .i64 1) (sUnit s 1 U) (fun _ => rfl) rfl)
  rw [hl] at d7
  rw [hu] at d10
  have k3 : 0 ≤ (u : Int) := by omega
  have k4 : (u : Int) ≤ 4095 := by omega
  have k5 : 0 ≤ (U : Int) := by omega
  have k6 : (U : Int) ≤ 65535 := by omega
  have k1 : 97 ≤ (e : Int) := by omega
  have k2 : (e : Int) ≤ 102 := by omega
  have hor : bits .or .i64 ((u : Int) * 16) ((e : Int) - 97 + 10) = (U : Int) := by
    have h := or_16 u (e - 87) hu2 (by omega)
    rw [hU, show ((e - 87 : Nat) : Int) = (e : Int) - 97 + 10 by omega] at h
    exact h
  clear hl hu hs h1 h2 hU hu2   hd
  generalize s.pair = P at *
  go_enter Tryd.func94, Tryd.ntmps94
  go_wp2_with fail
  refine HD.out.mono ?_
  rintro e w2 ⟨rfl, rfl⟩
  go_wp2_with fail
  go_quiet (fail)
  go_wp2_with fail
  go_ret
  exact ⟨rfl, S, HS2.out.drewN _, (((Keeps.refl _ w).setCell (p := ⟨g, 10, none⟩) (.inl HM.out) _).setCell (p := ⟨g, 7, none⟩) (.inl HM.out) _).drewN _, Fresh.refl _ _⟩

set_option maxRecDepth 100000 in
set_option maxHeartbeats 3000000 in
theorem hex_let_1s (w : World) (S : Nat → Prop) (g : Nat) (s : Sc) (c u e U : Nat) (hd : digitB c = false) (he : bits .or .u8 (c : Int) 32 = ((e : Nat) : Int)) (h1 : 97 ≤ e) (h2 : e ≤ 102) (hU : 16 * u + (e - 87) = U) (hu : s.unit = u) (hu2 : u ≤ 4095) (hl : s.left = 1) (hv : U / 1024 = 54) (hs : ScAt w S g s) :
    Calls Tryd.prog 94 #[.pointer (some ⟨g, 0, none⟩), .int .u8 c] w (ScPost w S g (sTo (sUnit s 0 U) jSecond false, 0)) := by
  have hmf := mk_f
  have HD := Lib.hid (digit_any c w)
  rw [show digitB c = false from by first | assumption | (simp [digitB]; omega)] at HD
  have d7 := hs.cell 7 (.int .i64 (s.left : Nat)) (fun _ => rfl)
  have d10 := hs.cell 10 (.int .i64 (s.unit : Nat)) (fun _ => rfl)
  have d11 := hs.cell 11 (.bool s.pair) (fun _ => rfl)
  have f7 := hs.fz 7
  have f10 := hs.fz 10
  have HM := Lib.hid hs.mem
  have HS2 := Lib.hid ((hs.store 10 (.int .i64 (U : Nat)) { s with unit := U } (fun _ => rfl) rfl).store 7 (.int .i64 0) (sUnit s 0 U) (fun _ => rfl) rfl)
  have HT := Lib.hid (fun n => to_any _ S g _ jSecond false (HS2.out.drewN n))
  unfold jSecond at HT
  rw [hl] at d7
  rw [hu] at d10
  have k3 : 0 ≤ (u : Int) := by omega
  have k4 : (u : Int) ≤ 4095 := by omega
  have k5 : 0 ≤ (U : Int) := by omega
  have k6 : (U : Int) ≤ 65535 := by omega
  have k1 : 97 ≤ (e : Int) := by omega
  have k2 : (e : Int) ≤ 102 := by omega
  have hor : bits .or .i64 ((u : Int) * 16) ((e : Int) - 97 + 10) = (U : Int) := by
    have h := or_16 u (e - 87) hu2 (by omega)
    rw [hU, show ((e - 87 : Nat) : Int) = (e : Int) - 97 + 10 by omega] at h
    exact h
  have q1 : ((U : Int) / 1024 == 54) = true := by rw [beq_iff_eq]; omega
  clear hl hu hs h1 h2 hU hu2  hv hd
  generalize s.pair = P at *
  go_enter Tryd.func94, Tryd.ntmps94
  go_wp2_with fail
  refine HD.out.mono ?_
  rintro e w2 ⟨rfl, rfl⟩
  go_wp2_with fail
  go_quiet (fail)
  go_wp2_with fail
  refine (HT.out _).mono ?_
  rintro e w2 ⟨rfl, h2⟩
  have H2 := Lib.hid h2
  clear h2
  go_wp2_with fail
  go_ret
  exact ScPost.after ((((Keeps.refl _ w).setCell (p := ⟨g, 10, none⟩) (.inl HM.out) _).setCell (p := ⟨g, 7, none⟩) (.inl HM.out) _).drewN _) (Fresh.refl _ _) ⟨rfl, H2.out⟩

set_option maxRecDepth 100000 in
set_option maxHeartbeats 3000000 in
theorem hex_let_1e (w : World) (S : Nat → Prop) (g : Nat) (s : Sc) (c u e U : Nat) (hd : digitB c = false) (he : bits .or .u8 (c : Int) 32 = ((e : Nat) : Int)) (h1 : 97 ≤ e) (h2 : e ≤ 102) (hU : 16 * u + (e - 87) = U) (hu : s.unit = u) (hu2 : u ≤ 4095) (hl : s.left = 1) (hv : U / 1024 ≠ 54) (hs : ScAt w S g s) :
    Calls Tryd.prog 94 #[.pointer (some ⟨g, 0, none⟩), .int .u8 c] w (ScPost w S g (sTo (sUnit s 0 U) jText false, 0)) := by
  have hmf := mk_f
  have HD := Lib.hid (digit_any c w)
  rw [show digitB c = false from by first | assumption | (simp [digitB]; omega)] at HD
  have d7 := hs.cell 7 (.int .i64 (s.left : Nat)) (fun _ => rfl)
  have d10 := hs.cell 10 (.int .i64 (s.unit : Nat)) (fun _ => rfl)
  have d11 := hs.cell 11 (.bool s.pair) (fun _ => rfl)
  have f7 := hs.fz 7
  have f10 := hs.fz 10
  have HM := Lib.hid hs.mem
  have HS2 := Lib.hid ((hs.store 10 (.int .i64 (U : Nat)) { s with unit := U } (fun _ => rfl) rfl).store 7 (.int .i64 0) (sUnit s 0 U) (fun _ => rfl) rfl)
  have HT := Lib.hid (fun n => to_any _ S g _ jText false (HS2.out.drewN n))
  unfold jText at HT
  rw [hl] at d7
  rw [hu] at d10
  have k3 : 0 ≤ (u : Int) := by omega
  have k4 : (u : Int) ≤ 4095 := by omega
  have k5 : 0 ≤ (U : Int) := by omega
  have k6 : (U : Int) ≤ 65535 := by omega
  have k1 : 97 ≤ (e : Int) := by omega
  have k2 : (e : Int) ≤ 102 := by omega
  have hor : bits .or .i64 ((u : Int) * 16) ((e : Int) - 97 + 10) = (U : Int) := by
    have h := or_16 u (e - 87) hu2 (by omega)
    rw [hU, show ((e - 87 : Nat) : Int) = (e : Int) - 97 + 10 by omega] at h
    exact h
  have q1 : ((U : Int) / 1024 == 54) = false := by rw [beq_eq_false_iff_ne]; omega
  clear hl hu hs h1 h2 hU hu2  hv hd
  generalize s.pair = P at *
  go_enter Tryd.func94, Tryd.ntmps94
  go_wp2_with fail
  refine HD.out.mono ?_
  rintro e w2 ⟨rfl, rfl⟩
  go_wp2_with fail
  go_quiet (fail)
  go_wp2_with fail
  refine (HT.out _).mono ?_
  rintro e w2 ⟨rfl, h2⟩
  have H2 := Lib.hid h2
  clear h2
  go_wp2_with fail
  go_ret
  exact ScPost.after ((((Keeps.refl _ w).setCell (p := ⟨g, 10, none⟩) (.inl HM.out) _).setCell (p := ⟨g, 7, none⟩) (.inl HM.out) _).drewN _) (Fresh.refl _ _) ⟨rfl, H2.out⟩

set_option maxRecDepth 100000 in
set_option maxHeartbeats 1500000 in
theorem hex_no (w : World) (S : Nat → Prop) (g : Nat) (s : Sc) (c e : Nat) (hd : digitB c = false) (he : bits .or .u8 (c : Int) 32 = ((e : Nat) : Int)) (h : e < 97 ∨ 102 < e) (hs : ScAt w S g s) :
    Calls Tryd.prog 94 #[.pointer (some ⟨g, 0, none⟩), .int .u8 c] w (ScPost w S g (s, 3)) := by
  have HD := Lib.hid (digit_any c w)
  rw [hd] at HD
  have HS := Lib.hid hs
  clear hs hd
  rcases h with h | h
  · have k1 : (e : Int) < 97 := by omega
    clear h
    go_enter Tryd.func94, Tryd.ntmps94
    go_wp2_with fail
    refine HD.out.mono ?_
    rintro e w2 ⟨rfl, rfl⟩
    go_wp2_with fail
    go_ret
    exact ScPost.stay HS.out 3
  · have k1 : 97 ≤ (e : Int) := by omega
    have k2 : ¬ (e : Int) ≤ 102 := by omega
    clear h
    go_enter Tryd.func94, Tryd.ntmps94
    go_wp2_with fail
    refine HD.out.mono ?_
    rintro e w2 ⟨rfl, rfl⟩
    go_wp2_with fail
    go_ret
    exact ScPost.stay HS.out 3

theorem hex_dig : ∀ c : Fin 256, (hexD c.val = 16 → digitB c.val = false ∧ ((c.val ||| 32) < 97 ∨ 102 < (c.val ||| 32))) ∧ (hexD c.val ≠ 16 → (48 ≤ c.val ∧ c.val ≤ 57 ∧ hexD c.val = c.val - 48) ∨ (digitB c.val = false ∧ 97 ≤ (c.val ||| 32) ∧ (c.val ||| 32) ≤ 102 ∧ hexD c.val = (c.val ||| 32) - 87)) := by decide +kernel

theorem hex_any (w : World) (S : Nat → Prop) (g : Nat) (s : Sc) (c : Nat) (hc : c < 256) (hs : ScAt w S g s) (h1 : 1 ≤ s.left) (h4 : s.left ≤ 4) (hu : s.unit ≤ 4095) :
    Calls Tryd.prog 94 #[.pointer (some ⟨g, 0, none⟩), .int .u8 c] w (ScPost w S g (pHex s c)) := by
  have hdg := hex_dig ⟨c, hc⟩
  have he := or_20 ⟨c, hc⟩
  simp only [] at hdg he
  unfold pHex
  by_cases hx : hexD c = 16
  · rw [if_pos hx]
    exact hex_no w S g s c _ (hdg.1 hx).1 he (hdg.1 hx).2 hs
  rw [if_neg hx]
  simp only []
  have hk := hdg.2 hx
  obtain ⟨U, hU⟩ : ∃ U, 16 * s.unit + hexD c = U := ⟨_, rfl⟩
  rw [hU]
  have hleft : s.left = 4 ∨ s.left = 3 ∨ s.left = 2 ∨ s.left = 1 := by omega
  rcases hleft with hl | hl | hl | hl
  · rw [hl]
    cases hp : s.pair
    · rw [if_neg (by simp), if_neg (by simp), if_pos (by omega)]
      rcases hk with ⟨a, b, e⟩ | ⟨d, a, b, e⟩
      · exact hex_dec_4f w S g s c _ U a b (by omega) rfl hu hl hp hs
      · exact hex_let_4f w S g s c _ _ U d he a b (by omega) rfl hu hl hp hs
    · by_cases hv : U = 13
      · rw [if_neg (by simp [hv]), if_neg (by simp), if_pos (by omega)]
        rcases hk with ⟨a, b, e⟩ | ⟨d, a, b, e⟩
        · exact hex_dec_4t w S g s c _ U a b (by omega) rfl hu hl hp hv hs
        · exact hex_let_4t w S g s c _ _ U d he a b (by omega) rfl hu hl hp hv hs
      · rw [if_pos ⟨rfl, rfl, hv⟩]
        rcases hk with ⟨a, b, e⟩ | ⟨d, a, b, e⟩
        · exact hex_dec_4n w S g s c _ U a b (by omega) rfl hu hl hp hv hs
        · exact hex_let_4n w S g s c _ _ U d he a b (by omega) rfl hu hl hp hv hs
  · rw [hl, if_neg (by simp)]
    by_cases hv : U / 4 = 55
    · cases hp : s.pair
      · rw [if_pos ⟨rfl, by simp [hv]⟩]
        rcases hk with ⟨a, b, e⟩ | ⟨d, a, b, e⟩
        · exact hex_dec_3ft w S g s c _ U a b (by omega) rfl hu hl hp hv hs
        · exact hex_let_3ft w S g s c _ _ U d he a b (by omega) rfl hu hl hp hv hs
      · rw [if_neg (by simp [hv]), if_pos (by omega)]
        rcases hk with ⟨a, b, e⟩ | ⟨d, a, b, e⟩
        · exact hex_dec_3tt w S g s c _ U a b (by omega) rfl hu hl hp hv hs
        · exact hex_let_3tt w S g s c _ _ U d he a b (by omega) rfl hu hl hp hv hs
    · cases hp : s.pair
      · rw [if_neg (by simp [hv]), if_pos (by omega)]
        rcases hk with ⟨a, b, e⟩ | ⟨d, a, b, e⟩
        · exact hex_dec_3ff w S g s c _ U a b (by omega) rfl hu hl hp hv hs
        · exact hex_let_3ff w S g s c _ _ U d he a b (by omega) rfl hu hl hp hv hs
      · rw [if_pos ⟨rfl, by simp [hv]⟩]
        rcases hk with ⟨a, b, e⟩ | ⟨d, a, b, e⟩
        · exact hex_dec_3tf w S g s c _ U a b (by omega) rfl hu hl hp hv hs
        · exact hex_let_3tf w S g s c _ _ U d he a b (by omega) rfl hu hl hp hv hs
  · rw [hl, if_neg (by simp), if_neg (by simp), if_pos (by omega)]
    rcases hk with ⟨a, b, e⟩ | ⟨d, a, b, e⟩
    · exact hex_dec_2 w S g s c _ U a b (by omega) rfl hu hl hs
    · exact hex_let_2 w S g s c _ _ U d he a b (by omega) rfl hu hl hs
  · rw [hl, if_neg (by simp), if_neg (by simp), if_neg (by omega)]
    by_cases hv : U / 1024 = 54
    · rw [if_pos hv]
      rcases hk with ⟨a, b, e⟩ | ⟨d, a, b, e⟩
      · exact hex_dec_1s w S g s c _ U a b (by omega) rfl hu hl hv hs
      · exact hex_let_1s w S g s c _ _ U d he a b (by omega) rfl hu hl hv hs
    · rw [if_neg hv]
      rcases hk with ⟨a, b, e⟩ | ⟨d, a, b, e⟩
      · exact hex_dec_1e w S g s c _ U a b (by omega) rfl hu hl hv hs
      · exact hex_let_1e w S g s c _ _ U d he a b (by omega) rfl hu hl hv hs
end Go.Proofs.YtjfeebbhkolmoaaDoor
