/-
  Proved: 'cruciblelaw05.RealBits' returns true for all patterns of 64 and of 32 bits (Rows.RealBitsSaid).
  Conditions: none beyond the given row's own.
-/
import Derived.Test.YtaichdcknoopdaaRows
import Derived.Test.YtaichdcknoopdaaArgs
import Derived.WalkKit
import Derived.ProofKit
import Derived.OpenShut
namespace Go.Proofs.Ytaichdcknoopdaa.realBits
open Go.ChangeShapes Go.WideShapes Go.ChangeAt Go.RowKit
set_option linter.unusedVariables false      -- a walk need not use every 'w<i>' (that an integer argument fits its kind)

theorem own : ownKnob Try.prog.godebug = none := by kernel_rfl


theorem one32_any (n : Nat) (hn : n < 4294967296) (w : World) :
    Calls Try.prog 30 #[.int .u32 n] w fun e w' => e = .returned (.int .u32 (one32 n)) ∧ w = w' := by
  have e1 : bits .and .u32 (n : Int) 2139095040 = ((n / 8388608 % 256 * 8388608 : Nat) : Int) := by rw [← and_exp32]; exact u32_and_nat n 2139095040 hn (by omega)
  have e2 : bits .and .u32 (n : Int) 8388607 = ((n % 8388608 : Nat) : Int) := by rw [← and_frac32]; exact u32_and_nat n 8388607 hn (by omega)
  have H : Hid (nan32 n = (decide (n / 8388608 % 256 = 255) && decide (n % 8388608 ≠ 0))) := Lib.hid (by unfold nan32; rw [Bool.eq_iff_iff]; simp; omega)
  have G : Hid (one32 n = if nan32 n = true then 2143289344 else n) := Lib.hid rfl
  by_cases h1 : n / 8388608 % 256 = 255
  · have h1' : (bits .and .u32 (n : Int) 2139095040 == 2139095040) = true := by rw [e1, h1]; rfl
    by_cases h2 : n % 8388608 = 0
    · have h2' : (bits .and .u32 (n : Int) 8388607 != 0) = false := by rw [e2, h2]; rfl
      have H2 : Hid (one32 n = n) := Lib.hid (by rw [G.out, H.out]; simp [h2])
      clear e1 e2 h1 h2
      go_enter Try.func30, Try.ntmps30
      go_wp2
      go_ret
      exact ⟨by rw [H2.out] <;> rfl, rfl⟩
    · have h2' : (bits .and .u32 (n : Int) 8388607 != 0) = true := by rw [e2]; simp; omega
      have H2 : Hid (one32 n = 2143289344) := Lib.hid (by rw [G.out, H.out]; simp [h1, h2])
      clear e1 e2 h1 h2
      go_enter Try.func30, Try.ntmps30
      go_wp2
      go_ret
      exact ⟨by rw [H2.out] <;> rfl, rfl⟩
  · have h1' : (bits .and .u32 (n : Int) 2139095040 == 2139095040) = false := by rw [e1]; simp; omega
    have H2 : Hid (one32 n = n) := Lib.hid (by rw [G.out, H.out]; simp [h1])
    clear e1 e2 h1
    go_enter Try.func30, Try.ntmps30
    go_wp2
    go_ret
    exact ⟨by rw [H2.out] <;> rfl, rfl⟩

/-! ### STEP 1: THE WALK: the Go text returns true. 'Grown w w'': the world has at most new blocks (Derived/RowKit3.lean). Part the cases AHEAD of 'go_enter' where a test parts the walk; take each callee by a contract of your own. -/
theorem walk (a0 : Int) (a1 : Int) (w0 : (Lit.int .u64 a0).wf = true) (w1 : (Lit.int .u32 a1).wf = true) (w : World) :
    Calls Try.prog 6 #[.int .u64 a0, .int .u32 a1] w fun e w' => e = .returned (.bool true) ∧ Grown w w' := by
  obtain ⟨x, rfl, hx⟩ := u64_arg w0
  obtain ⟨y, rfl, hy⟩ := u32_arg w1
  clear w0 w1
  have q1 := order64_self x
  have q2 := order32_self y
  have q3 : one64 9221120237041090560 = 9221120237041090560 := by decide
  have H3 : Hid (((one32 y : Int) == 2143289344) = nan32 y) := Lib.hid (by
    unfold one32
    cases h : nan32 y
    · have : y ≠ 2143289344 := by rintro rfl; exact absurd h (by decide)
      simp; omega
    · rfl)
  cases hn : nan64 x <;> cases hm : nan32 y
  all_goals
    rw [hn] at q1
    rw [hm] at q2
    have h3 : ((one32 y : Int) == 2143289344) = _ := H3.out.trans hm
    go_enter Try.func6, Try.ntmps6
    go_wp2_with fail
    refine (float_any _ _).mono ?_; rintro e w' ⟨rfl, rfl⟩
    go_wp2_with fail
    refine (float32_any _ _).mono ?_; rintro e w' ⟨rfl, rfl⟩
    go_wp2_with fail
    refine (bits_any _ _).mono ?_; rintro e w' ⟨rfl, rfl⟩
    go_wp2_with fail
    refine (one_any _ hx _).mono ?_; rintro e w' ⟨rfl, rfl⟩
    go_wp2_with fail
    refine (bits32_any _ _).mono ?_; rintro e w' ⟨rfl, rfl⟩
    go_wp2_with fail
    refine (one32_any _ hy _).mono ?_; rintro e w' ⟨rfl, rfl⟩
    go_wp2_with fail
    refine (isNaN_any _ hx _).mono ?_; rw [hn]; rintro e w' ⟨rfl, rfl⟩
    go_wp2_with fail
    refine (one32_any _ hy _).mono ?_; rintro e w' ⟨rfl, rfl⟩
    go_wp2_with fail
    refine (float_any _ _).mono ?_; rintro e w' ⟨rfl, rfl⟩
    go_wp2_with fail
    refine (bits_any _ _).mono ?_; rintro e w' ⟨rfl, rfl⟩
    go_wp2_with fail
    refine (lives_any _).mono ?_; rintro e w' ⟨rfl, hg⟩
    go_wp2_with fail
    go_ret
    exact ⟨rfl, hg⟩

/-! ### THE ROW's STEP: WRITTEN OUT: LEAVE IT -/
set_option maxRecDepth 100000 in
theorem lifted (os : Os) (started : os.Started) (H : Type) (enc : TypeId × Value → H) :
    ReturnsInHanded {} Try.checked os 6 .any (Rows.realBitsSpec.pre6 enc Try.prog Try.f6 Rows.realBitsRow.domain false) (Rows.realBitsSpec.post enc Try.prog Try.f6 false true false false) := by
  refine returnsInHanded_of_change (C := Try.checked) own started (by kernel_rfl) Try.func6
    (ChangeSpec.witness6 (enc := enc) (C := Try.checked) false ⟨#[], #[.int .u64 0, .int .u32 0], []⟩ 8 (by kernel_rfl) (by kernel_rfl) (by kernel_rfl) (by kernel_rfl)) ?_
  intro W base args ds gs before hval0 hW hcnd _
  have hval : ∀ (j : Nat) t v, Try.f6.params[j]? = some t → args[j]? = some v → Value.okWide Try.prog W .any base t v := hval0
  have hW' := hW
  obtain ⟨p, q, hA0, hV, rfl, hfz, hnd⟩ := hW
  have hA : DataW.TrodAll enc Try.prog W 0 (fun _ => true) true Try.f6.params.toList args.toList ds p := hA0
  rw [Try.params6] at hA hval
  obtain ⟨v0, vs0, d0, ds0, p0, q0, hargs, rfl, rfl, h0, r0⟩ := trodAll_cons hA
  obtain ⟨v1, vs1, d1, ds1, p1, q1, rfl, rfl, rfl, h1, r1⟩ := trodAll_cons r0
  obtain ⟨rfl, rfl, rfl⟩ := trodAll_nil r1
  obtain rfl : args = #[v0, v1] := by cases args; simp_all
  obtain ⟨rfl, rfl⟩ := trodVars_none hV
  obtain ⟨a0, rfl, rfl, rfl, w0⟩ := open_int Try.underlying22 (hval 0 22 v0 rfl rfl) h0
  obtain ⟨a1, rfl, rfl, rfl, w1⟩ := open_int Try.underlying31 (hval 1 31 v1 rfl rfl) h1
  clear hA0 hval0
  simp only [List.append_nil] at hW'
  refine (walk a0 a1 w0 w1 W).mono fun e W' ⟨he, hg⟩ => ?_
  subst he
  exact ⟨_, rfl, post_of_same (pa := []) (pv := []) hW' (fun _ _ _ => (trodAll_cons_mk (shut_bool Try.underlying4 _) trodAll_mk0)) (fun sp _ => (trodAll_cons_mk (shut_int Try.underlying22 w0) (trodAll_cons_mk (shut_int Try.underlying31 w1) trodAll_mk0))) (fun _ _ => rfl) rfl
    (hg.frame _) hg.2.1 (ok_one (by kernel_rfl) rfl (okWide_bool_mk Try.underlying4 _))⟩

theorem over : Rows.realBitsRow.holds Try.pinned (OpenSpec.ofChange Rows.realBitsSpec) :=
  OpenClaim.holds_of_wide 6 Try.f6 rfl rfl rfl rfl rfl rfl rfl ⟨rfl, rfl, rfl, rfl, rfl⟩ rfl rfl rfl rfl rfl (by kernel_rfl) Try.func6 (by kernel_rfl)
    (of_decide_eq_true (by kernel_rfl)) (by unfold Func.isWrapper; first | (rw [if_pos (by decide +kernel)]; kernel_rfl) | (rw [if_neg (by decide +kernel)]; exact ⟨rfl, rfl⟩))
    (fun os started H enc _ => lifted os started H enc)

/-- ████ THE STATEMENT ████ -/
theorem proved : Rows.RealBitsSaid :=
  over
#print axioms proved
end Go.Proofs.Ytaichdcknoopdaa.realBits
