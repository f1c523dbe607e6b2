/-
  Proved: 'cruciblelaw05.RealJoins' returns true for every two pairs of patterns of 64 bits (Rows.RealJoinsSaid).
  Conditions: none beyond the given row's own.
-/
import Derived.Test.YtaichdcknoopdaaRows
import Derived.Test.YtaichdcknoopdaaJoins
import Derived.Test.YtaichdcknoopdaaArgs
import Derived.WalkKit
import Derived.ProofKit
import Derived.OpenShut
import Derived.Carry
import Derived.Lib.SmallJoins
namespace Go.Proofs.Ytaichdcknoopdaa.realJoins
open Go.ChangeShapes Go.WideShapes Go.ChangeAt Go.RowKit
set_option linter.unusedVariables false

theorem own : ownKnob Try.prog.godebug = none := by kernel_rfl

theorem walk {H : Type} {enc : TypeId × Value → H} (w : World) (a0 b0 : Int) (wa0 : (Lit.int .u64 a0).wf = true) (wb0 : (Lit.int .u64 b0).wf = true) (a1 b1 : Int) (wa1 : (Lit.int .u64 a1).wf = true) (wb1 : (Lit.int .u64 b1).wf = true) :
    Calls Try.prog 9 #[.agg #[.int .u64 a0, .int .u64 b0], .agg #[.int .u64 a1, .int .u64 b1]] w fun e w' => e = .returned (.bool true) ∧ Below w.heap.size w w' := by
  obtain ⟨x1, rfl, h1⟩ := u64_arg wa0
  obtain ⟨y1, rfl, h2⟩ := u64_arg wb0
  obtain ⟨x2, rfl, h3⟩ := u64_arg wa1
  obtain ⟨y2, rfl, h4⟩ := u64_arg wb1
  exact joins_any x1 y1 x2 y2 h1 h2 h3 h4 _ _ rfl rfl w

theorem laidOut : laidOutB Try.prog = true := by kernel_rfl

set_option maxRecDepth 100000 in
theorem lifted (os : Os) (started : os.Started) (H : Type) (enc : TypeId × Value → H) :
    ReturnsInHanded {} Try.checked os 9 .any (Rows.realJoinsSpec.pre6 enc Try.prog Try.f9 Rows.realJoinsRow.domain false) (Rows.realJoinsSpec.post enc Try.prog Try.f9 false true false false) := by
  refine returnsInHanded_of_change (C := Try.checked) own started (by kernel_rfl) Try.func9
    (ChangeSpec.witness6 (enc := enc) (C := Try.checked) false ⟨#[], #[.agg #[.int .u64 0, .int .u64 0], .agg #[.int .u64 0, .int .u64 0]], []⟩ 8 (by kernel_rfl) (by kernel_rfl) (by kernel_rfl) (by kernel_rfl)) ?_
  intro W base args ds gs before hval0 hW hcnd _
  have hval : ∀ (j : Nat) t v, Try.f9.params[j]? = some t → args[j]? = some v → Value.okWide Try.prog W .any base t v := hval0
  have hW' := hW
  obtain ⟨p, q, hA0, hV, rfl, hfz, hnd⟩ := hW
  have hA : DataW.TrodAll enc Try.prog W 0 (fun _ => true) true Try.f9.params.toList args.toList ds p := hA0
  rw [Try.params9] at hA hval
  obtain ⟨v0, vs0, d0, ds0, p0, q0, hargs, rfl, rfl, h0, r0⟩ := trodAll_cons hA
  obtain ⟨v1, vs1, d1, ds1, p1, q1, rfl, rfl, rfl, h1, r1⟩ := trodAll_cons r0
  obtain ⟨rfl, rfl, rfl⟩ := trodAll_nil r1
  obtain rfl : args = #[v0, v1] := by cases args; simp_all
  obtain ⟨rfl, rfl⟩ := trodVars_none hV
  have k0 := h0
  have lt0 : ∀ x ∈ p0, x.block < W.heap.size := by obtain ⟨m, hm⟩ := k0; exact DataW.trod_lt m _ _ _ hm
  obtain ⟨ca0, cb0, ya0, yb0, m0, rfl, -, -, hya0, hyb0⟩ := Go.Joins.open_agg2 Try.underlying51 (by kernel_rfl) (by kernel_rfl : Try.prog.cellsOf 51 = 2) (hval 0 51 v0 rfl rfl) h0
  obtain ⟨a0, ea0, -, wa0⟩ := DataW.trod_int Try.underlying22 hya0
  obtain ⟨b0, eb0, -, wb0⟩ := DataW.trod_int Try.underlying22 hyb0
  simp at ea0 eb0
  subst ea0 eb0
  have k1 := h1
  have lt1 : ∀ x ∈ p1, x.block < W.heap.size := by obtain ⟨m, hm⟩ := k1; exact DataW.trod_lt m _ _ _ hm
  obtain ⟨ca1, cb1, ya1, yb1, m1, rfl, -, -, hya1, hyb1⟩ := Go.Joins.open_agg2 Try.underlying51 (by kernel_rfl) (by kernel_rfl : Try.prog.cellsOf 51 = 2) (hval 1 51 v1 rfl rfl) h1
  obtain ⟨a1, ea1, -, wa1⟩ := DataW.trod_int Try.underlying22 hya1
  obtain ⟨b1, eb1, -, wb1⟩ := DataW.trod_int Try.underlying22 hyb1
  simp at ea1 eb1
  subst ea1 eb1
  clear hA0 hval0
  refine (walk (enc := enc) W a0 b0 wa0 wb0 a1 b1 wa1 wb1).mono fun e W' ⟨he, bel⟩ => ?_
  subst he
  exact ⟨_, rfl, _, _, _, [], _, [], hW', trodAll_mk1 (shut_bool Try.underlying4 _), (trodAll_cons_mk (Below.trod laidOut (by kernel_rfl) (of_decide_eq_true (by kernel_rfl)) k0 bel lt0) (trodAll_cons_mk (Below.trod laidOut (by kernel_rfl) (of_decide_eq_true (by kernel_rfl)) k1 bel lt1) trodAll_mk0)), rfl, bel.frame _, fun h => by cases h⟩

theorem over : Rows.realJoinsRow.holds Try.pinned (OpenSpec.ofChange Rows.realJoinsSpec) :=
  OpenClaim.holds_of_wide 9 Try.f9 rfl rfl rfl rfl rfl rfl rfl ⟨rfl, rfl, rfl, rfl, rfl⟩ rfl rfl rfl rfl rfl (by kernel_rfl) Try.func9 (by kernel_rfl)
    (of_decide_eq_true (by kernel_rfl)) (by unfold Func.isWrapper; first | (rw [if_pos (by decide +kernel)]; kernel_rfl) | (rw [if_neg (by decide +kernel)]; exact ⟨rfl, rfl⟩))
    (fun os started H enc _ => lifted os started H enc)

theorem proved : Rows.RealJoinsSaid := over
#print axioms proved
end Go.Proofs.Ytaichdcknoopdaa.realJoins
