/- law07.exact, fit: all digits of a pattern of a width that is told by a number. -/
import Derived.Test.YtgckfilmhnapeaaDoorXv
import Derived.Test.YtgckfilmhnapeaaDoorLr
import Derived.Test.YtgckfilmhnapeaaDoorExA
import Derived.Test.YtgckfilmhnapeaaDoorExB
import Derived.Test.YtgckfilmhnapeaaDoorExC
import Derived.Test.YtgckfilmhnapeaaDoorExM
namespace Go.Proofs.YtgckfilmhnapeaaDoor
open Go.RowKit Go.Lib
set_option linter.unusedVariables false

def wI (u : Int) : Nat := if u % 4 = 1 then 2139095040 else if u % 4 = 2 then 9218868437227405312 else 31744
theorem wI_eq (u : Int) : wI u = (wW u + 1) * 2 ^ wF u := by
  unfold wI wW wF
  by_cases h1 : u % 4 = 1
  · simp only [h1, if_true]
  · by_cases h2 : u % 4 = 2
    · rw [if_neg h1, if_pos h2, if_neg h1, if_pos h2, if_neg h1, if_pos h2]
    · rw [if_neg h1, if_neg h2, if_neg h1, if_neg h2, if_neg h1, if_neg h2]
theorem wS_le (u : Int) : 0 < wS u ∧ wS u ≤ 9223372036854775808 ∧ wI u < wS u ∧ 0 < wI u ∧ wF u ≤ 52 ∧ wL u ≤ 1074 ∧ wW u ≤ 2046 := by
  unfold wS wI wF wL wW
  by_cases h1 : u % 4 = 1
  · simp only [h1, if_true]; decide
  · by_cases h2 : u % 4 = 2
    · rw [if_neg h1, if_pos h2, if_neg h1, if_pos h2, if_neg h1, if_pos h2, if_neg h1, if_pos h2, if_neg h1, if_pos h2]; decide
    · rw [if_neg h1, if_neg h2, if_neg h1, if_neg h2, if_neg h1, if_neg h2, if_neg h1, if_neg h2, if_neg h1, if_neg h2]; decide
def XCall (f l inf sign : Nat) (x : Nat) (w : World) (e : Ending) (w' : World) : Prop :=
  ∃ ok ng t P, e = .returned (.tuple #[.agg #[.bool ng, .string t, .int .i64 P], .bool ok]) ∧ Below w.heap.size w w' ∧ XVal f l inf (decide (sign ≤ x)) (x % sign) ok ng t P
theorem u64_wrap (x : Nat) : IntKind.u64.wrap (x : Int) = ((x % 18446744073709551616 : Nat) : Int) := by
  simp only [IntKind.wrap]
  simp [IntKind.signed, IntKind.bits]
theorem u32_wrap (x : Nat) : IntKind.u32.wrap (x : Int) = ((x % 4294967296 : Nat) : Int) := by
  simp only [IntKind.wrap]
  simp [IntKind.signed, IntKind.bits]
theorem u16_wrap (x : Nat) : IntKind.u16.wrap (x : Int) = ((x % 65536 : Nat) : Int) := by
  simp only [IntKind.wrap]
  simp [IntKind.signed, IntKind.bits]

set_option maxRecDepth 100000 in
theorem lexact_A (u : Int) (hk : u.tmod 4 = 2) (x : Nat) (hx : x < 18446744073709551616) (w : World) (hT : Tabs w) :
    Calls Tryd.prog 13 #[.int .u8 u, .int .u64 x] w (XCall 52 1074 9218868437227405312 9223372036854775808 x w) := by
  have HB0 : Hid (Below w.heap.size w (w.alloc (.cells #[.bool false, .string ⟨#[]⟩, .int .i64 0] 23))) := Lib.hid ((Below.refl w.heap.size w).alloc (Nat.le_refl _) _)
  have HK0 := Lib.hid (Blk.new w 23 #[.bool false, .string ⟨#[]⟩, .int .i64 0])
  have HX := Lib.hid (exact_A x hx _ (hT.below HB0.out))
  clear hT
  go_enter Tryd.func13, Tryd.ntmps13
  go_wp2_with fail
  refine HX.out.mono ?_
  rintro e w1 h
  obtain ⟨ok, ng, t, P, rfl, hb, hv⟩ := XVal.of_ex h (by decide)
  have HB := Lib.hid (HB0.out.trans (hb.mono HB0.out.size))
  have HK := HK0.out.below hb (by simp)
  have HV := Lib.hid hv
  have n0 := HK.cell 0
  have n1 := HK.cell 1
  have n2 := HK.cell 2
  have f0 := HK.frozen 0
  have f1 := HK.frozen 1
  have f2 := HK.frozen 2
  simp at n0 n1 n2
  clear hb hv h HX HB0 HK0 HK
  go_wp2_with fail
  exact bodyPost_ret (v := .tuple #[.agg #[.bool ng, .string t, .int .i64 P], .bool ok]) (by simp [results, Tryd.results13, go_sem, n0, n1, n2]) rfl ⟨ok, ng, t, P, rfl, ((HB.out.setCell (p := ⟨w.heap.size, 0, none⟩) (Nat.le_refl _) _).setCell (p := ⟨w.heap.size, 1, none⟩) (Nat.le_refl _) _).setCell (p := ⟨w.heap.size, 2, none⟩) (Nat.le_refl _) _, HV.out⟩

set_option maxRecDepth 100000 in
theorem lexact_B (u : Int) (hk : u.tmod 4 = 1) (x : Nat) (hx : x < 4294967296) (w : World) (hT : Tabs w) :
    Calls Tryd.prog 13 #[.int .u8 u, .int .u64 x] w (XCall 23 149 2139095040 2147483648 x w) := by
  have HB0 : Hid (Below w.heap.size w (w.alloc (.cells #[.bool false, .string ⟨#[]⟩, .int .i64 0] 23))) := Lib.hid ((Below.refl w.heap.size w).alloc (Nat.le_refl _) _)
  have HK0 := Lib.hid (Blk.new w 23 #[.bool false, .string ⟨#[]⟩, .int .i64 0])
  have HX := Lib.hid (exact_B x hx _ (hT.below HB0.out))
  have hwx : IntKind.u32.wrap (x : Int) = (x : Int) := by rw [u32_wrap]; omega
  clear hT
  go_enter Tryd.func13, Tryd.ntmps13
  go_wp2_with fail
  refine HX.out.mono ?_
  rintro e w1 h
  obtain ⟨ok, ng, t, P, rfl, hb, hv⟩ := XVal.of_ex h (by decide)
  have HB := Lib.hid (HB0.out.trans (hb.mono HB0.out.size))
  have HK := HK0.out.below hb (by simp)
  have HV := Lib.hid hv
  have n0 := HK.cell 0
  have n1 := HK.cell 1
  have n2 := HK.cell 2
  have f0 := HK.frozen 0
  have f1 := HK.frozen 1
  have f2 := HK.frozen 2
  simp at n0 n1 n2
  clear hb hv h HX HB0 HK0 HK
  go_wp2_with fail
  exact bodyPost_ret (v := .tuple #[.agg #[.bool ng, .string t, .int .i64 P], .bool ok]) (by simp [results, Tryd.results13, go_sem, n0, n1, n2]) rfl ⟨ok, ng, t, P, rfl, ((HB.out.setCell (p := ⟨w.heap.size, 0, none⟩) (Nat.le_refl _) _).setCell (p := ⟨w.heap.size, 1, none⟩) (Nat.le_refl _) _).setCell (p := ⟨w.heap.size, 2, none⟩) (Nat.le_refl _) _, HV.out⟩

set_option maxRecDepth 100000 in
theorem lexact_C (u : Int) (hk : u.tmod 4 = 0) (x : Nat) (hx : x < 65536) (w : World) (hT : Tabs w) :
    Calls Tryd.prog 13 #[.int .u8 u, .int .u64 x] w (XCall 10 24 31744 32768 x w) := by
  have HB0 : Hid (Below w.heap.size w (w.alloc (.cells #[.bool false, .string ⟨#[]⟩, .int .i64 0] 23))) := Lib.hid ((Below.refl w.heap.size w).alloc (Nat.le_refl _) _)
  have HK0 := Lib.hid (Blk.new w 23 #[.bool false, .string ⟨#[]⟩, .int .i64 0])
  have HX := Lib.hid (exact_C x hx _ (hT.below HB0.out))
  have hwx : IntKind.u16.wrap (x : Int) = (x : Int) := by rw [u16_wrap]; omega
  clear hT
  go_enter Tryd.func13, Tryd.ntmps13
  go_wp2_with fail
  refine HX.out.mono ?_
  rintro e w1 h
  obtain ⟨ok, ng, t, P, rfl, hb, hv⟩ := XVal.of_ex h (by decide)
  have HB := Lib.hid (HB0.out.trans (hb.mono HB0.out.size))
  have HK := HK0.out.below hb (by simp)
  have HV := Lib.hid hv
  have n0 := HK.cell 0
  have n1 := HK.cell 1
  have n2 := HK.cell 2
  have f0 := HK.frozen 0
  have f1 := HK.frozen 1
  have f2 := HK.frozen 2
  simp at n0 n1 n2
  clear hb hv h HX HB0 HK0 HK
  go_wp2_with fail
  exact bodyPost_ret (v := .tuple #[.agg #[.bool ng, .string t, .int .i64 P], .bool ok]) (by simp [results, Tryd.results13, go_sem, n0, n1, n2]) rfl ⟨ok, ng, t, P, rfl, ((HB.out.setCell (p := ⟨w.heap.size, 0, none⟩) (Nat.le_refl _) _).setCell (p := ⟨w.heap.size, 1, none⟩) (Nat.le_refl _) _).setCell (p := ⟨w.heap.size, 2, none⟩) (Nat.le_refl _) _, HV.out⟩

set_option maxRecDepth 100000 in
theorem lexact_M (u : Int) (hk : u.tmod 4 = 3) (x : Nat) (hx : x < 65536) (w : World) (hT : Tabs w) :
    Calls Tryd.prog 13 #[.int .u8 u, .int .u64 x] w (XCall 10 24 31744 32768 x w) := by
  have HB0 : Hid (Below w.heap.size w (w.alloc (.cells #[.bool false, .string ⟨#[]⟩, .int .i64 0] 23))) := Lib.hid ((Below.refl w.heap.size w).alloc (Nat.le_refl _) _)
  have HK0 := Lib.hid (Blk.new w 23 #[.bool false, .string ⟨#[]⟩, .int .i64 0])
  have HX := Lib.hid (exact_M x hx _ (hT.below HB0.out))
  have hwx : IntKind.u16.wrap (x : Int) = (x : Int) := by rw [u16_wrap]; omega
  clear hT
  go_enter Tryd.func13, Tryd.ntmps13
  go_wp2_with fail
  refine HX.out.mono ?_
  rintro e w1 h
  obtain ⟨ok, ng, t, P, rfl, hb, hv⟩ := XVal.of_ex h (by decide)
  have HB := Lib.hid (HB0.out.trans (hb.mono HB0.out.size))
  have HK := HK0.out.below hb (by simp)
  have HV := Lib.hid hv
  have n0 := HK.cell 0
  have n1 := HK.cell 1
  have n2 := HK.cell 2
  have f0 := HK.frozen 0
  have f1 := HK.frozen 1
  have f2 := HK.frozen 2
  simp at n0 n1 n2
  clear hb hv h HX HB0 HK0 HK
  go_wp2_with fail
  exact bodyPost_ret (v := .tuple #[.agg #[.bool ng, .string t, .int .i64 P], .bool ok]) (by simp [results, Tryd.results13, go_sem, n0, n1, n2]) rfl ⟨ok, ng, t, P, rfl, ((HB.out.setCell (p := ⟨w.heap.size, 0, none⟩) (Nat.le_refl _) _).setCell (p := ⟨w.heap.size, 1, none⟩) (Nat.le_refl _) _).setCell (p := ⟨w.heap.size, 2, none⟩) (Nat.le_refl _) _, HV.out⟩

theorem lexact_any (u : Int) (hu0 : 0 ≤ u) (x : Nat) (hx : x < 2 * wS u) (w : World) (hT : Tabs w) :
    Calls Tryd.prog 13 #[.int .u8 u, .int .u64 x] w (XCall (wF u) (wL u) (wI u) (wS u) x w) := by
  have htm : u.tmod 4 = u % 4 := Int.tmod_eq_emod_of_nonneg hu0
  unfold wF wL wI wS
  unfold wS at hx
  by_cases h1 : u % 4 = 1
  · simp only [h1, if_true] at hx ⊢
    exact lexact_B u (htm.trans h1) x hx w hT
  · by_cases h2 : u % 4 = 2
    · rw [if_neg h1, if_pos h2] at hx
      rw [if_neg h1, if_pos h2, if_neg h1, if_pos h2, if_neg h1, if_pos h2, if_neg h1, if_pos h2]
      exact lexact_A u (htm.trans h2) x hx w hT
    · rw [if_neg h1, if_neg h2] at hx
      rw [if_neg h1, if_neg h2, if_neg h1, if_neg h2, if_neg h1, if_neg h2, if_neg h1, if_neg h2]
      by_cases h3 : u % 4 = 3
      · exact lexact_M u (htm.trans h3) x hx w hT
      · exact lexact_C u (htm.trans (by omega)) x hx w hT

theorem fit_any (u : Int) (hu0 : 0 ≤ u) (x : Nat) (hx : x < 18446744073709551616) (w : World) : Calls Tryd.prog 12 #[.int .u8 u, .int .u64 x] w fun e w' => e = .returned (.int .u64 ((x % (2 * wS u) : Nat) : Int)) ∧ w' = w := by
  have htm : u.tmod 4 = u % 4 := Int.tmod_eq_emod_of_nonneg hu0
  unfold wS
  by_cases h1 : u % 4 = 1
  · rw [if_pos h1]
    have hk : u.tmod 4 = 1 := htm.trans h1
    have e1 := u32_wrap x
    have e2 : IntKind.u64.wrap ((x % 4294967296 : Nat) : Int) = ((x % 4294967296 : Nat) : Int) := by rw [u64_wrap]; omega
    have HE : Hid (x % (2 * 2147483648) = x % 4294967296) := Lib.hid rfl
    generalize x % 4294967296 = y at *
    clear htm h1 hu0 hx
    go_enter Tryd.func12, Tryd.ntmps12
    go_wp2_with fail
    go_ret
    exact ⟨by first | rfl | (rw [HE.out]; rfl), rfl⟩
  · by_cases h2 : u % 4 = 2
    · rw [if_neg h1, if_pos h2]
      have hk : u.tmod 4 = 2 := htm.trans h2
      have HE : Hid (x % (2 * 9223372036854775808) = x) := Lib.hid (Nat.mod_eq_of_lt hx)
      clear htm h1 h2 hu0 hx
      go_enter Tryd.func12, Tryd.ntmps12
      go_wp2_with fail
      go_ret
      exact ⟨by first | rfl | (rw [HE.out]; rfl), rfl⟩
    · rw [if_neg h1, if_neg h2]
      have hk1 : (u.tmod 4 == 1) = false := by rw [beq_eq_false_iff_ne, htm]; exact h1
      have hk2 : (u.tmod 4 == 2) = false := by rw [beq_eq_false_iff_ne, htm]; exact h2
      have e1 := u16_wrap x
      have e2 : IntKind.u64.wrap ((x % 65536 : Nat) : Int) = ((x % 65536 : Nat) : Int) := by rw [u64_wrap]; omega
      have HE : Hid (x % (2 * 32768) = x % 65536) := Lib.hid rfl
      generalize x % 65536 = y at *
      clear htm h1 h2 hu0 hx
      go_enter Tryd.func12, Tryd.ntmps12
      go_wp2_with fail
      go_ret
      exact ⟨by first | rfl | (rw [HE.out]; rfl), rfl⟩
end Go.Proofs.YtgckfilmhnapeaaDoor
