/- Contracts of the small functions of package real and crucibleref05, second part. -/
import Derived.Test.YtaichdcknoopdaaBase
namespace Go.Proofs.Ytaichdcknoopdaa
open Go.RowKit
attribute [local go_sem] cfFrom cfBits cfFrom32 cfBits32

theorem ret_bool {a b : Bool} (h : a = b) : Ending.returned (.bool a) = .returned (.bool b) := by rw [h]
theorem ret_int {k : IntKind} {a b : Int} (h : a = b) : Ending.returned (.int k a) = .returned (.int k b) := by rw [h]
theorem ret_intbool {k : IntKind} {a b : Int} {c d : Bool} (h : a = b) (g : c = d) : Ending.returned (.tuple #[.int k a, .bool c]) = .returned (.tuple #[.int k b, .bool d]) := by rw [h, g]
theorem ret_complex {a b c d : Nat} (h : a = b) (g : c = d) : Ending.returned (.complex .f64 a c) = .returned (.complex .f64 b d) := by rw [h, g]
theorem unary_neg_float (k : FloatKind) (b : Nat) : Op.unary .neg (.float k b) = pure (.float k (Op.negFloat k b)) := rfl

theorem neg_any (n : Nat) (w : World) :
    Calls Try.prog 62 #[.int .u64 n] w fun e w' => e = .returned (.bool (decide (9223372036854775808 ≤ n))) ∧ w = w' := by
  go_enter Try.func62, Try.ntmps62
  go_wp2
  go_ret
  exact ⟨ret_bool (by rw [decide_eq_decide]; omega), rfl⟩

theorem rank_any (n : Nat) (hn : n < 18446744073709551616) (w : World) :
    Calls Try.prog 57 #[.int .u64 n] w fun e w' => e = .returned (.int .i64 (rank64 n)) ∧ w = w' := by
  have e1 : bits .and .u64 (n : Int) 9223372036854775807 = ((n % 9223372036854775808 : Nat) : Int) := by rw [← and_size]; exact u64_and_nat n 9223372036854775807 hn (by omega)
  have hb : ((n % 9223372036854775808 : Nat) : Int) ≤ 9223372036854775807 := by omega
  have hb0 : 0 ≤ ((n % 9223372036854775808 : Nat) : Int) := by omega
  have H : Hid (rank64 n = if 9223372036854775808 ≤ n then -((n % 9223372036854775808 : Nat) : Int) else ((n % 9223372036854775808 : Nat) : Int)) := Lib.hid (by
    unfold rank64
    by_cases h : 9223372036854775808 ≤ n
    · rw [if_pos h, if_pos (by omega)]
    · rw [if_neg h, if_neg (by omega)])
  generalize ((n % 9223372036854775808 : Nat) : Int) = k at *
  by_cases h : 9223372036854775808 ≤ n
  · go_enter Try.func57, Try.ntmps57
    go_wp2_with (go_at_call 62; refine (neg_any _ _).mono ?_; rintro e w' ⟨rfl, rfl⟩)
    go_ret
    exact ⟨ret_int (by rw [H.out, if_pos h]), rfl⟩
  · go_enter Try.func57, Try.ntmps57
    go_wp2_with (go_at_call 62; refine (neg_any _ _).mono ?_; rintro e w' ⟨rfl, rfl⟩)
    go_ret
    exact ⟨ret_int (by rw [H.out, if_neg h]), rfl⟩

theorem refCmp_any (x y : Nat) (hx : x < 18446744073709551616) (hy : y < 18446744073709551616) (w : World) :
    Calls Try.prog 21 #[.int .u64 x, .int .u64 y] w fun e w' => e = .returned (.tuple #[.int .i64 (cmp64 x y).1, .bool (cmp64 x y).2]) ∧ w = w' := by
  have H : Hid (cmp64 x y = if nan64 x || nan64 y then (0, false) else (if rank64 x < rank64 y then -1 else if rank64 y < rank64 x then 1 else 0, true)) := Lib.hid rfl
  cases h1 : nan64 x <;> cases h2 : nan64 y
  all_goals
    rw [h1, h2] at H
    go_enter Try.func21, Try.ntmps21
    go_wp2_with (first | (go_at_call 31; refine (isNaN_any _ (by assumption) _).mono ?_; rintro e w' ⟨rfl, rfl⟩) | (go_at_call 57; refine (rank_any _ (by assumption) _).mono ?_; rintro e w' ⟨rfl, rfl⟩))
    all_goals (go_ret2; exact ⟨ret_intbool (by rw [H.out]; simp only [Bool.or_true, Bool.or_false, Bool.false_eq_true, if_true, if_false]; try (repeat (split; (try omega))); try omega) (by rw [H.out]; rfl), rfl⟩)

theorem join_any (x y : Nat) (w : World) :
    Calls Try.prog 56 #[.float .f64 x, .float .f64 y] w fun e w' => e = .returned (.complex .f64 x y) ∧ w = w' := by
  go_enter Try.func56, Try.ntmps56
  go_wp2
  go_ret
  exact ⟨rfl, rfl⟩
theorem split_any (x y : Nat) (w : World) :
    Calls Try.prog 45 #[.complex .f64 x y] w fun e w' => e = .returned (.tuple #[.float .f64 x, .float .f64 y]) ∧ w = w' := by
  go_enter Try.func45, Try.ntmps45
  go_wp2
  go_ret2
  exact ⟨rfl, rfl⟩
theorem sameComplex_any (a b c d : Nat) (w : World) :
    Calls Try.prog 39 #[.complex .f64 a b, .complex .f64 c d] w fun e w' => e = .returned (.bool (decide (one64 a = one64 c ∧ one64 b = one64 d))) ∧ w = w' := by
  have H : Hid (decide (one64 a = one64 c ∧ one64 b = one64 d) = (((one64 a : Int) == (one64 c : Int)) && ((one64 b : Int) == (one64 d : Int)))) := Lib.hid (by rw [Bool.eq_iff_iff]; simp; omega)
  cases h : ((one64 a : Int) == (one64 c : Int))
  all_goals
    rw [h] at H
    go_enter Try.func39, Try.ntmps39
    go_wp2_with (go_at_call 23; refine (same_any _ _ _).mono ?_; rintro e w' ⟨rfl, rfl⟩)
    go_ret
    exact ⟨by rw [H.out] <;> rfl, rfl⟩
theorem is_any (a b c d : Nat) (w : World) :
    Calls Try.prog 38 #[.complex .f64 a b, .int .u64 c, .int .u64 d] w fun e w' => e = .returned (.bool (decide (one64 a = c ∧ one64 b = d))) ∧ w = w' := by
  have H : Hid (decide (one64 a = c ∧ one64 b = d) = (((one64 a : Int) == (c : Int)) && ((one64 b : Int) == (d : Int)))) := Lib.hid (by rw [Bool.eq_iff_iff]; simp; omega)
  cases h : ((one64 a : Int) == (c : Int))
  all_goals
    rw [h] at H
    go_enter Try.func38, Try.ntmps38
    go_wp2_with (first | (go_at_call 45; refine (split_any _ _ _).mono ?_; rintro e w' ⟨rfl, rfl⟩) | (go_at_call 17; refine (bits_any _ _).mono ?_; rintro e w' ⟨rfl, rfl⟩))
    go_ret
    exact ⟨by rw [H.out] <;> rfl, rfl⟩
theorem flip_any (a b : Nat) (w : World) :
    Calls Try.prog 40 #[.complex .f64 a b] w fun e w' => e = .returned (.complex .f64 a (Op.negFloat .f64 b)) ∧ w = w' := by
  have hneg := unary_neg_float .f64
  go_enter Try.func40, Try.ntmps40
  go_wp2
  go_ret
  exact ⟨rfl, rfl⟩
/-- the end of what is handed back: a complex number whose parts have these patterns -/
def CplxPost (w : World) (x y : Nat) (e : Ending) (w' : World) : Prop := ∃ r s n, e = .returned (.complex .f64 r s) ∧ w' = w.drewN n ∧ one64 r = x ∧ one64 s = y ∧ r < 18446744073709551616 ∧ s < 18446744073709551616

theorem run_complex64 {P : Program} (op : BinOp) (hop : op = .add ∨ op = .sub) (t : TypeId) (a b c d : Nat) (f : Nat → Nat → Option Nat) (hop1 : ∀ x y, floatBits op .f64 x y = f x y) (hf : ∀ x y r, f x y = some r → nan64 r = false ∧ r < 18446744073709551616) (w : World) :
    ∃ r s n, (binOp op t (.complex .f64 a b) (.complex .f64 c d)).run P w = .ok (.complex .f64 r s) (w.drewN n) ∧ one64 r = (f a c).getD 9221120237041090560 ∧ one64 s = (f b d).getD 9221120237041090560 ∧ r < 18446744073709551616 ∧ s < 18446744073709551616 := by
  have hop2 : op = .add ∨ op = .sub ∨ op = .mul := by rcases hop with h | h <;> simp [h]
  obtain ⟨r, n, h1, h2, h3⟩ := run_arith64 (P := P) w op a c f hop1 hop2 hf
  obtain ⟨s, m, g1, g2, g3⟩ := run_arith64 (P := P) { w with drawn := w.drawn + n } op b d f hop1 hop2 hf
  refine ⟨r, s, n + m, ?_, h2, g2, h3, g3⟩
  rcases hop with rfl | rfl <;> simp [binOp, Op.complexOp, Op.Complex.arith, h1, g1, World.drewN, Nat.add_assoc]

theorem minus_any (a b c d : Nat) (w : World) :
    Calls Try.prog 43 #[.complex .f64 a b, .complex .f64 c d] w (CplxPost w (sub64 a c) (sub64 b d)) := by
  obtain ⟨r, s, n, h, h1, h2, h3, h4⟩ := run_complex64 (P := Try.prog) .sub (Or.inr rfl) 48 a b c d F64.sub (fun _ _ => rfl) (fun _ _ _ => sub_notNaN) w
  have H1 := Lib.hid h1
  have H2 := Lib.hid h2
  clear h1 h2
  go_enter Try.func43, Try.ntmps43
  go_wp2
  go_ret
  exact ⟨r, s, n, rfl, rfl, H1.out, H2.out, h3, h4⟩
end Go.Proofs.Ytaichdcknoopdaa
