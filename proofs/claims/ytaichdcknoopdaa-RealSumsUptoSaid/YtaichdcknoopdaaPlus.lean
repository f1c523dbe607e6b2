/- The contract of real.Plus: the sum of the complex numbers that a slice holds. -/
import Derived.Test.YtaichdcknoopdaaBase2
namespace Go.Proofs.Ytaichdcknoopdaa
open Go.RowKit

theorem add64_one (a b c : Nat) (h : one64 a = one64 b) : add64 a c = add64 b c := by
  cases ha : nan64 a <;> cases hb : nan64 b
  · rw [one64_id ha, one64_id hb] at h; rw [h]
  · rw [one64_id ha, one64_nan hb] at h; rw [h] at ha; exact absurd ha (by decide)
  · rw [one64_nan ha, one64_id hb] at h; rw [← h] at hb; exact absurd hb (by decide)
  · have e : ∀ x y, nan64 x = true → F64.add x y = none := by
      intro x y hx
      unfold nan64 at hx
      simp only [decide_eq_true_eq] at hx
      unfold Ieee.Format.add
      rw [read64 x, if_neg (by omega), if_neg (by omega), if_neg (by omega)]
      simp [Ieee.Datum.sum]
    unfold add64
    rw [e a c ha, e b c hb]

/-- the sum of these, from a beginning on -/
def fold64 (s : Nat) (l : List Nat) : Nat := l.foldl add64 s
theorem fold64_take (s : Nat) (l : List Nat) (k : Nat) (h : k < l.length) : fold64 s (l.take (k + 1)) = add64 (fold64 s (l.take k)) (l.getD k 0) := by
  unfold fold64
  rw [List.take_succ_eq_append_getElem h, List.foldl_append]
  simp [h]

theorem one64_nan' : one64 9221120237041090560 = 9221120237041090560 := by decide
theorem one64_add (a b : Nat) : one64 (add64 a b) = add64 a b := by
  unfold add64
  cases h : F64.add a b with
  | none => exact one64_nan'
  | some r => exact one64_id (add_notNaN h).1

/-- what a slice value holds: complex numbers of these patterns -/
def CplxAt (w : World) (a : Option Addr) (xs ys : List Nat) : Prop :=
  ∀ i, i < xs.length → ∃ b off, a = some ⟨b, off, none⟩ ∧ w.cell? ⟨b, off + i, none⟩ = some (.complex .f64 (xs.getD i 0) (ys.getD i 0))

/-- the loop's own relation -/
def PlusRel (w : World) (xs ys : List Nat) (v i : Value) (wr : World) : Prop :=
  ∃ k : Nat, ∃ r s n, k ≤ xs.length ∧ i = .int .i64 k ∧ v = .complex .f64 r s ∧ wr = w.drewN n ∧ one64 r = fold64 0 (xs.take k) ∧ one64 s = fold64 0 (ys.take k) ∧ r < 18446744073709551616 ∧ s < 18446744073709551616

theorem plus_any (w : World) (a : Option Addr) (cap : Nat) (xs ys : List Nat) (hl : ys.length = xs.length) (hm : xs.length ≤ 9223372036854775807) (hc : CplxAt w a xs ys) :
    Calls Try.prog 44 #[.slice a xs.length cap] w (CplxPost w (fold64 0 xs) (fold64 0 ys)) := by
  have HL := Lib.hid hl
  have HC := Lib.hid hc
  clear hl hc
  go_enter Try.func44, Try.ntmps44
  go_wp2
  go_loopw [3, 8] (fun v i wr => PlusRel w xs ys v i wr) (fun _ i _ => xs.length - (intOf i).toNat)
  case atStart => exact ⟨0, 0, 0, 0, Nat.zero_le _, rfl, rfl, rfl, rfl, rfl, by decide, by decide⟩
  case round =>
    obtain ⟨k, r, s, n, hk, rfl, rfl, rfl, h1, h2, h3, h4⟩ := hrel
    have H1 := Lib.hid h1
    have H2 := Lib.hid h2
    clear h1 h2
    by_cases hlt : k < xs.length
    · obtain ⟨b, off, rfl, hcell⟩ := HC.out k hlt
      have hcell' : (w.drewN n).cell? ⟨b, off + k, none⟩ = some (.complex .f64 (xs.getD k 0) (ys.getD k 0)) := hcell
      clear hcell
      generalize hx : xs.getD k 0 = x at *
      generalize hy : ys.getD k 0 = y at *
      have HX := Lib.hid hx
      have HY := Lib.hid hy
      clear hx hy
      obtain ⟨r', s', m, h, g1, g2, g3, g4⟩ := run_complex64 (P := Try.prog) .add (Or.inl rfl) 48 r s x y F64.add (fun _ _ => rfl) (fun _ _ _ => add_notNaN) (w.drewN n)
      have G1 := Lib.hid g1
      have G2 := Lib.hid g2
      clear g1 g2
      go_wp2
      go_roundw
      case rel =>
        refine ⟨k + 1, r', s', n + m, by omega, by go_num, rfl, by simp [World.drewN], ?_, ?_, g3, g4⟩
        · rw [fold64_take 0 xs k hlt, G1.out, HX.out, ← H1.out, show (F64.add r x).getD 9221120237041090560 = add64 r x from rfl]
          refine add64_one _ _ _ ?_
          unfold one64; split <;> simp_all [nan64]
        · rw [fold64_take 0 ys k (by rw [HL.out]; exact hlt), G2.out, HY.out, ← H2.out, show (F64.add s y).getD 9221120237041090560 = add64 s y from rfl]
          refine add64_one _ _ _ ?_
          unfold one64; split <;> simp_all [nan64]
      case measure => simp [intOf]; omega
    · go_wp2
      go_ret
      exact ⟨r, s, n, rfl, rfl, by rw [H1.out, List.take_of_length_le (by omega)], by rw [H2.out, List.take_of_length_le (by rw [HL.out]; omega)], h3, h4⟩
theorem plus_n (w : World) (a : Option Addr) (cap n : Nat) (xs ys : List Nat) (hn : xs.length = n) (hl : ys.length = xs.length) (hm : n ≤ 9223372036854775807) (hc : CplxAt w a xs ys) :
    Calls Try.prog 44 #[.slice a n cap] w (CplxPost w (fold64 0 xs) (fold64 0 ys)) := by
  subst hn
  exact plus_any w a cap xs ys hl hm hc
end Go.Proofs.Ytaichdcknoopdaa
