/- The walk of cruciblelaw07.DecimalCompares. -/
import Derived.Test.YtgckfilmhnapeaaDoorDec5
namespace Go.Proofs.YtgckfilmhnapeaaDoor
open Go.RowKit Go.Lib
set_option linter.unusedVariables false

theorem sz_eq (a b : ByteArray) (p q : Int) (ha : a.size ≤ 1048576) (hb : b.size ≤ 1048576) : szP a b p q = szR a b p q := by
  unfold szP szR
  obtain ⟨g1, g2, -⟩ := half_bd p
  obtain ⟨g3, g4, -⟩ := half_bd q
  exact size_law p q (p.tdiv 2) (q.tdiv 2) _ _ (Nat.le_trans (lead_le _) (by rw [bytes_len]; exact ha)) (Nat.le_trans (lead_le _) (by rw [bytes_len]; exact hb)) _ g1 g2 g3 g4
theorem cmp_eq (na nb : Bool) (a b : ByteArray) (p q : Int) (ha : a.size ≤ 1048576) (hb : b.size ≤ 1048576) : cmpRV na a p nb b q = cmpV na a p nb b q := by
  unfold cmpRV cmpV
  rw [← sz_eq a b p q ha hb, ← cmp_law]

set_option maxRecDepth 100000 in
set_option maxHeartbeats 1500000 in
theorem wcompares (na : Bool) (a : ByteArray) (p : Int) (ha : a.size ≤ 1048576) (hp : (Lit.int .i64 p).wf = true) (nb : Bool) (b : ByteArray) (q : Int) (hb : b.size ≤ 1048576) (hq : (Lit.int .i64 q).wf = true) (w : World) :
    Calls Tryd.prog 3 #[.agg #[.bool na, .string a, .int .i64 p], .agg #[.bool nb, .string b, .int .i64 q]] w fun e w' => e = .returned (.bool true) ∧ Below w.heap.size w w' := by
  have hmin : IntKind.i64.min = -9223372036854775808 := rfl
  have hmax : IntKind.i64.max = 9223372036854775807 := rfl
  simp only [Lit.wf, Bool.and_eq_true, decide_eq_true_eq, hmin, hmax] at hp hq
  obtain ⟨h1, h4⟩ := hp
  obtain ⟨h3, h2⟩ := hq
  have HP := Lib.hid (fun wx => cmp_any na nb a b p q wx h1 h2 h3 h4 (by omega) (by omega))
  have HR := Lib.hid (fun wx => cmp_ref na nb a b p q wx h1 h2 h3 h4 (by omega) (by omega))
  rw [cmp_eq na nb a b p q ha hb] at HR
  generalize cmpV na a p nb b q = Z at *
  generalize bothB a b = B at *
  clear h1 h2 h3 h4 hmin hmax
  have T0 := two_new w na nb a b p q
  have HW0 : Hid (W2 w na nb a b p q = (w.alloc (.cells #[.bool na, .string a, .int .i64 p] 23)).alloc (.cells #[.bool nb, .string b, .int .i64 q] 23)) := Lib.hid rfl
  generalize W2 w na nb a b p q = W0 at *
  have HT0 := Lib.hid T0
  obtain ⟨c0, c1, c2, d0, d1, d2⟩ := T0.cells
  clear T0
  go_enter Tryd.func3, Tryd.ntmps3
  go_wp2_with fail
  rw [← HW0.out]
  go_wp2_with fail
  refine (HP.out _).mono ?_
  rintro e w1 ⟨rfl, hb1⟩
  have HT1 := Lib.hid (HT0.out.below hb1)
  clear hb1 c0 c1 c2 d0 d1 d2
  obtain ⟨c0, c1, c2, d0, d1, d2⟩ := HT1.out.cells
  go_wp2_with fail
  refine (HR.out _).mono ?_
  rintro e w2 ⟨rfl, hb2⟩
  have HT2 := Lib.hid (HT1.out.below hb2)
  clear hb2 c0 c1 c2 d0 d1 d2
  cases B
  all_goals
    go_wp2_with fail
    go_ret
    exact ⟨rfl, HT2.out.bel⟩
end Go.Proofs.YtgckfilmhnapeaaDoor
