/-
  Proved: 'cruciblelaw05.RealWholes' returns true for every pattern of 64 bits and every whole number of 64 bits (Rows.RealWholesSaid).
  Conditions: none beyond the given row's own.
-/
import Derived.Test.YtaichdcknoopdaaRows
import Derived.Test.YtaichdcknoopdaaRWhole2
import Derived.Test.YtaichdcknoopdaaArgs
import Derived.Test.YtaichdcknoopdaaLives
import Derived.WalkKit
import Derived.ProofKit
import Derived.OpenShut
import Derived.Carry
namespace Go.Proofs.Ytaichdcknoopdaa.realWholes
open Go.ChangeShapes Go.WideShapes Go.ChangeAt Go.RowKit
set_option linter.unusedVariables false

theorem own : ownKnob Try.prog.godebug = none := by kernel_rfl

set_option maxRecDepth 100000 in
set_option maxHeartbeats 2000000 in
theorem walk {H : Type} {enc : TypeId × Value → H} (w : World) (a0 : Int) (w0 : (Lit.int .u64 a0).wf = true) (a1 : Int) (w1 : (Lit.int .i64 a1).wf = true) :
    Calls Try.prog 8 #[.int .u64 a0, .int .i64 a1] w fun e w' => e = .returned (.bool true) ∧ Below w.heap.size w w' := by
  obtain ⟨b, rfl, hb⟩ := u64_arg w0
  obtain ⟨n1, n2⟩ := i64_arg w1
  clear w0 w1
  have HA := Lib.hid (rwhole_any b hb)
  have HB := Lib.hid (whole_any b _ (wholeO_all b hb))
  have HC := Lib.hid (rfrom_any a1 n1 n2)
  have HD := Lib.hid (fromWhole_any a1 _ (wholeO_all _ (ofInt_lt a1)))
  have HO : Hid (one64 (floatOfInt .f64 a1) = floatOfInt .f64 a1) := Lib.hid (one64_id (ofInt_nan a1))
  have HE : Hid (((wholeA (floatOfInt .f64 a1)).2 && (wholeA (floatOfInt .f64 a1)).1 == a1) = fromB (floatOfInt .f64 a1) a1) := Lib.hid rfl
  clear n1 n2 hb
  rw [HE.out] at HD
  clear HE
  generalize floatOfInt .f64 a1 = x at *
  generalize fromB x a1 = F at *
  obtain ⟨K, OK⟩ := wholeA b
  cases OK
  all_goals
    cases F
    all_goals
      go_enter Try.func8, Try.ntmps8
      go_wp2_with fail
      refine (HA.out _).mono ?_; rintro e w' ⟨rfl, rfl⟩
      go_wp2_with fail
      refine (float_any _ _).mono ?_; rintro e w' ⟨rfl, rfl⟩
      go_wp2_with fail
      refine (HB.out _).mono ?_; rintro e w' ⟨rfl, rfl⟩
      go_wp2_with fail
      refine (HC.out _).mono ?_; rintro e w1 ⟨rfl, h1⟩
      have B1 := Lib.hid h1
      clear h1
      go_wp2_with fail
      refine (HD.out _).mono ?_; rintro e w' ⟨rfl, rfl⟩
      go_wp2_with fail
      refine (bits_any _ _).mono ?_
      rw [HO.out]
      rintro e w' ⟨rfl, rfl⟩
      go_wp2_with fail
      refine (lives_below _).mono ?_; rintro e w2 ⟨rfl, h2⟩
      have B2 := Lib.hid (B1.out.trans (h2.mono B1.out.size))
      clear h2
      go_wp2_with fail
      go_ret
      exact ⟨rfl, B2.out⟩

theorem laidOut : laidOutB Try.prog = true := by kernel_rfl

set_option maxRecDepth 100000 in
theorem lifted (os : Os) (started : os.Started) (H : Type) (enc : TypeId × Value → H) :
    ReturnsInHanded {} Try.checked os 8 .any (Rows.realWholesSpec.pre6 enc Try.prog Try.f8 Rows.realWholesRow.domain false) (Rows.realWholesSpec.post enc Try.prog Try.f8 false true false false) := by
  refine returnsInHanded_of_change (C := Try.checked) own started (by kernel_rfl) Try.func8
    (ChangeSpec.witness6 (enc := enc) (C := Try.checked) false ⟨#[], #[.int .u64 0, .int .i64 0], []⟩ 8 (by kernel_rfl) (by kernel_rfl) (by kernel_rfl) (by kernel_rfl)) ?_
  intro W base args ds gs before hval0 hW hcnd _
  have hval : ∀ (j : Nat) t v, Try.f8.params[j]? = some t → args[j]? = some v → Value.okWide Try.prog W .any base t v := hval0
  have hW' := hW
  obtain ⟨p, q, hA0, hV, rfl, hfz, hnd⟩ := hW
  have hA : DataW.TrodAll enc Try.prog W 0 (fun _ => true) true Try.f8.params.toList args.toList ds p := hA0
  rw [Try.params8] at hA hval
  obtain ⟨v0, vs0, d0, ds0, p0, q0, hargs, rfl, rfl, h0, r0⟩ := trodAll_cons hA
  obtain ⟨v1, vs1, d1, ds1, p1, q1, rfl, rfl, rfl, h1, r1⟩ := trodAll_cons r0
  obtain ⟨rfl, rfl, rfl⟩ := trodAll_nil r1
  obtain rfl : args = #[v0, v1] := by cases args; simp_all
  obtain ⟨rfl, rfl⟩ := trodVars_none hV
  obtain ⟨a0, rfl, rfl, rfl, w0⟩ := open_int Try.underlying22 (hval 0 22 v0 rfl rfl) h0
  obtain ⟨a1, rfl, rfl, rfl, w1⟩ := open_int Try.underlying2 (hval 1 2 v1 rfl rfl) h1
  clear hA0 hval0
  refine (walk (enc := enc) W a0 w0 a1 w1).mono fun e W' ⟨he, bel⟩ => ?_
  subst he
  exact ⟨_, rfl, _, _, _, [], _, [], hW', trodAll_mk1 (shut_bool Try.underlying4 _), (trodAll_cons_mk (shut_int Try.underlying22 w0) (trodAll_cons_mk (shut_int Try.underlying2 w1) trodAll_mk0)), rfl, bel.frame _, fun h => by cases h⟩

theorem over : Rows.realWholesRow.holds Try.pinned (OpenSpec.ofChange Rows.realWholesSpec) :=
  OpenClaim.holds_of_wide 8 Try.f8 rfl rfl rfl rfl rfl rfl rfl ⟨rfl, rfl, rfl, rfl, rfl⟩ rfl rfl rfl rfl rfl (by kernel_rfl) Try.func8 (by kernel_rfl)
    (of_decide_eq_true (by kernel_rfl)) (by unfold Func.isWrapper; first | (rw [if_pos (by decide +kernel)]; kernel_rfl) | (rw [if_neg (by decide +kernel)]; exact ⟨rfl, rfl⟩))
    (fun os started H enc _ => lifted os started H enc)

theorem proved : Rows.RealWholesSaid := over
#print axioms proved
end Go.Proofs.Ytaichdcknoopdaa.realWholes
