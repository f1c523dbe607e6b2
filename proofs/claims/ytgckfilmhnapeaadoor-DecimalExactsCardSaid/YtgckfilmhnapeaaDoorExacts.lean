/- The law DecimalExacts: the walk. -/
import Derived.Test.YtgckfilmhnapeaaDoorRx
import Derived.Test.YtgckfilmhnapeaaDoorTl
namespace Go.Proofs.YtgckfilmhnapeaaDoor
open Go.RowKit Go.Lib Go.ChangeShapes
set_option linter.unusedVariables false

set_option maxRecDepth 100000 in
set_option maxHeartbeats 4000000 in
theorem wexacts (u : Int) (hu : (Lit.int .u8 u).wf = true) (x : Int) (hx : (Lit.int .u64 x).wf = true) (w : World)
    (hL : laidMetH Tryd.prog Rows.decimalExactsRow.laid w) :
    Calls Tryd.prog 4 #[.int .u8 u, .int .u64 x] w fun e w' => e = .returned (.bool true) ∧ Below w.heap.size w w' := by
  have hT : Tabs w := tabs_of_list hL
  have hmin8 : IntKind.u8.min = 0 := rfl
  have hmax8 : IntKind.u8.max = 255 := rfl
  have hmin : IntKind.u64.min = 0 := rfl
  have hmax : IntKind.u64.max = 18446744073709551615 := rfl
  simp only [Lit.wf, Bool.and_eq_true, decide_eq_true_eq, hmin, hmax, hmin8, hmax8] at hu hx
  obtain ⟨x, rfl⟩ : ∃ n : Nat, x = n := ⟨x.toNat, by omega⟩
  have HF := Lib.hid (fun wx => fit_any u hu.1 x (by omega) wx)
  have hS := wS_le u
  have hlt : x % (2 * wS u) < 2 * wS u := Nat.mod_lt _ (by omega)
  generalize x % (2 * wS u) = y at *
  have HX := Lib.hid (fun wx (h : Below w.heap.size w wx) => lexact_any u hu.1 y hlt wx (hT.below h))
  have HWD := Lib.hid (fun wx => width_any u hu.1 wx)
  have HR := Lib.hid (fun wx => rexact_ref (wid_of u) y hlt wx)
  clear hT hL hmin hmax hmin8 hmax8 hu hx hS hlt
  go_enter Tryd.func4, Tryd.ntmps4
  go_wp2_with fail
  refine (HF.out _).mono ?_
  rintro e w1 ⟨rfl, hw1⟩
  subst hw1
  go_wp2_with fail
  refine (HX.out _ (Below.refl _ _)).mono ?_
  rintro e w2 ⟨ok, ng, t, P, rfl, hb2, hv2⟩
  have HB2 := Lib.hid hb2
  have HV2 := Lib.hid hv2
  clear hb2 hv2
  go_wp2_with fail
  refine (HWD.out _).mono ?_
  rintro e w3 ⟨rfl, hw3⟩
  subst hw3
  have H2 := Lib.hid (dgC_new w2 ng t P 23)
  have HB3 : Hid (Below w1.heap.size w1 (w2.alloc (.cells #[.bool ng, .string t, .int .i64 P] 23))) := Lib.hid (HB2.out.alloc HB2.out.size _)
  go_wp2_with fail
  refine (HR.out _).mono ?_
  rintro e w4 ⟨ok', ng', t', P', rfl, hb4, hv4⟩
  obtain ⟨e1, e2, e3, e4⟩ := HV2.out.same hv4
  subst e1 e2 e3 e4
  have H4 := Lib.hid ((H2.out.below hb4).below ((Below.refl w4.heap.size w4).alloc (Nat.le_refl _) (.cells #[.bool ng, .string t, .int .i64 P] 23)))
  have H5 := Lib.hid (dgC_new w4 ng t P 23)
  have HB4 := Lib.hid (HB3.out.trans (hb4.mono HB3.out.size))
  clear hb4 hv4 HV2 HB2 HB3 H2
  have c0 := H4.out.c0
  have c1 := H4.out.c1
  have c2 := H4.out.c2
  have d0 := H5.out.c0
  have d1 := H5.out.c1
  have d2 := H5.out.c2
  go_wp2_with fail
  go_ret
  exact ⟨rfl, HB4.out.alloc HB4.out.size _⟩
end Go.Proofs.YtgckfilmhnapeaaDoor
