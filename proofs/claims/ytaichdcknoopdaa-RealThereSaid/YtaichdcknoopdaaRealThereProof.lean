/-
  Proved: 'cruciblelaw05.RealThere' returns true for every pattern of 16 bits and every whole number of 64 bits (Rows.RealThereSaid).
  Conditions: none beyond the given row's own.
-/
import Derived.Test.YtaichdcknoopdaaRows
import Derived.Test.YtaichdcknoopdaaArgs
import Derived.Test.YtaichdcknoopdaaThere2
import Derived.WalkKit
import Derived.ProofKit
import Derived.OpenShut
namespace Go.Proofs.Ytaichdcknoopdaa.realThere
open Go.ChangeShapes Go.WideShapes Go.ChangeAt Go.RowKit
set_option linter.unusedVariables false      -- a walk need not use every 'w<i>' (that an integer argument fits its kind)

theorem own : ownKnob Try.prog.godebug = none := by kernel_rfl

/-! ### STEP 1: THE WALK: the Go text returns true. 'Grown w w'': the world has at most new blocks (Derived/RowKit3.lean). Part the cases AHEAD of 'go_enter' where a test parts the walk; take each callee by a contract of your own. -/
theorem walk (a0 : Int) (a1 : Int) (w0 : (Lit.int .u16 a0).wf = true) (w1 : (Lit.int .i64 a1).wf = true) (w : World) :
    Calls Try.prog 10 #[.int .u16 a0, .int .i64 a1] w fun e w' => e = .returned (.bool true) ∧ Grown w w' := by
  obtain ⟨h, rfl, hh⟩ := u16_arg w0
  obtain ⟨n1, n2⟩ := i64_arg w1
  clear w0 w1
  obtain ⟨k, hk, hk1, hk2, hk3, hk4⟩ := half_back h hh
  have e1 : bits .and .u16 (h : Int) 32767 = ((h % 32768 : Nat) : Int) := by
    rw [show (32767 : Int) = ((32767 : Nat) : Int) from rfl, u16_and_nat h 32767 hh (by omega)]
    congr 1; exact Nat.and_two_pow_sub_one_eq_mod h 15
  have e2 : ((one64 (fromHalf64 k) : Int) != (one64 (fromHalf64 h) : Int)) = false := by rw [hk2]; simp
  obtain ⟨m, is, hw, hcase⟩ := whole_there a1 n1 n2
  have W := Lib.hid hw
  have C := Lib.hid hcase
  have K1 := Lib.hid hk1
  have K3 := Lib.hid hk3
  clear hk1 hk2 hk3 hw hcase
  generalize hX : floatOfInt .f64 a1 = X at C
  have HX := Lib.hid hX
  clear hX
  by_cases hs : h % 32768 ≤ 31744
  · have e3 : ((k : Int) != (h : Int)) = false := by rw [K3.out hs]; simp
    have e4 : decide (((h % 32768 : Nat) : Int) ≤ 31744) = true := by simp; omega
    generalize ((h % 32768 : Nat) : Int) = hm at *
    clear hs
    go_enter Try.func10, Try.ntmps10
    go_wp2_with fail
    refine (fromHalf_any _ hh _).mono ?_; rintro e w' ⟨rfl, rfl⟩
    go_wp2_with fail
    refine (half_any _ hk4 _ K1.out _).mono ?_; rintro e w' ⟨rfl, rfl⟩
    go_wp2_with fail
    refine (fromHalf_any _ hk _).mono ?_; rintro e w' ⟨rfl, rfl⟩
    go_wp2_with fail
    refine (bits_any _ _).mono ?_; rintro e w' ⟨rfl, rfl⟩
    go_wp2_with fail
    refine (fromHalf_any _ hh _).mono ?_; rintro e w' ⟨rfl, rfl⟩
    go_wp2_with fail
    refine (bits_any _ _).mono ?_; rintro e w' ⟨rfl, rfl⟩
    go_wp2_with fail
    refine (fromWhole_any _ _ W.out _).mono ?_
    rw [HX.out]
    have W2 : Hid (wholeO X = some (m, is)) := Lib.hid (HX.out ▸ W.out)
    rintro e w' ⟨rfl, rfl⟩
    rcases C.out with ⟨rfl, rfl⟩ | ⟨rfl, c1, c2, c3⟩ | ⟨rfl, rfl, c1, c2⟩
    · clear C
      have q1 : (m == m) = true := by simp
      go_wp2_with fail
      refine (whole_any _ _ W2.out _).mono ?_; rintro e w' ⟨rfl, rfl⟩
      go_wp2_with fail
      refine (lives_any _).mono ?_; rintro e w' ⟨rfl, hg⟩
      go_wp2_with fail
      go_ret
      exact ⟨rfl, hg⟩
    · clear C
      have q1 : (m == a1) = false := by simpa using c1
      have q2 : a1 - m ≠ 0 := by omega
      clear c1
      go_wp2_with fail
      refine (whole_any _ _ W2.out _).mono ?_; rintro e w' ⟨rfl, rfl⟩
      have q3 : IntKind.i64.wrap (a1 - m) = a1 - m := IntWalk.i64_in _ (by omega)
      have q4 : decide (-512 ≤ a1 - m) = true := by simpa using c2
      have q5 : decide (a1 - m ≤ 512) = true := by simpa using c3
      have q6 : (a1 - m != 0) = true := by simpa using q2
      go_wp2_with fail
      refine (lives_any _).mono ?_; rintro e w' ⟨rfl, hg⟩
      go_wp2_with fail
      go_ret
      exact ⟨rfl, hg⟩
    · clear C
      go_wp2_with fail
      refine (whole_any _ _ W2.out _).mono ?_; rintro e w' ⟨rfl, rfl⟩
      go_wp2_with fail
      refine (lives_any _).mono ?_; rintro e w' ⟨rfl, hg⟩
      go_wp2_with fail
      go_ret
      exact ⟨rfl, hg⟩
  · have e4 : decide (((h % 32768 : Nat) : Int) ≤ 31744) = false := by simp; omega
    generalize ((h % 32768 : Nat) : Int) = hm at *
    clear hs
    go_enter Try.func10, Try.ntmps10
    go_wp2_with fail
    refine (fromHalf_any _ hh _).mono ?_; rintro e w' ⟨rfl, rfl⟩
    go_wp2_with fail
    refine (half_any _ hk4 _ K1.out _).mono ?_; rintro e w' ⟨rfl, rfl⟩
    go_wp2_with fail
    refine (fromHalf_any _ hk _).mono ?_; rintro e w' ⟨rfl, rfl⟩
    go_wp2_with fail
    refine (bits_any _ _).mono ?_; rintro e w' ⟨rfl, rfl⟩
    go_wp2_with fail
    refine (fromHalf_any _ hh _).mono ?_; rintro e w' ⟨rfl, rfl⟩
    go_wp2_with fail
    refine (bits_any _ _).mono ?_; rintro e w' ⟨rfl, rfl⟩
    go_wp2_with fail
    refine (fromWhole_any _ _ W.out _).mono ?_
    rw [HX.out]
    have W2 : Hid (wholeO X = some (m, is)) := Lib.hid (HX.out ▸ W.out)
    rintro e w' ⟨rfl, rfl⟩
    rcases C.out with ⟨rfl, rfl⟩ | ⟨rfl, c1, c2, c3⟩ | ⟨rfl, rfl, c1, c2⟩
    · clear C
      have q1 : (m == m) = true := by simp
      go_wp2_with fail
      refine (whole_any _ _ W2.out _).mono ?_; rintro e w' ⟨rfl, rfl⟩
      go_wp2_with fail
      refine (lives_any _).mono ?_; rintro e w' ⟨rfl, hg⟩
      go_wp2_with fail
      go_ret
      exact ⟨rfl, hg⟩
    · clear C
      have q1 : (m == a1) = false := by simpa using c1
      have q2 : a1 - m ≠ 0 := by omega
      clear c1
      go_wp2_with fail
      refine (whole_any _ _ W2.out _).mono ?_; rintro e w' ⟨rfl, rfl⟩
      have q3 : IntKind.i64.wrap (a1 - m) = a1 - m := IntWalk.i64_in _ (by omega)
      have q4 : decide (-512 ≤ a1 - m) = true := by simpa using c2
      have q5 : decide (a1 - m ≤ 512) = true := by simpa using c3
      have q6 : (a1 - m != 0) = true := by simpa using q2
      go_wp2_with fail
      refine (lives_any _).mono ?_; rintro e w' ⟨rfl, hg⟩
      go_wp2_with fail
      go_ret
      exact ⟨rfl, hg⟩
    · clear C
      go_wp2_with fail
      refine (whole_any _ _ W2.out _).mono ?_; rintro e w' ⟨rfl, rfl⟩
      go_wp2_with fail
      refine (lives_any _).mono ?_; rintro e w' ⟨rfl, hg⟩
      go_wp2_with fail
      go_ret
      exact ⟨rfl, hg⟩

/-! ### THE ROW's STEP: WRITTEN OUT: LEAVE IT -/
set_option maxRecDepth 100000 in
theorem lifted (os : Os) (started : os.Started) (H : Type) (enc : TypeId × Value → H) :
    ReturnsInHanded {} Try.checked os 10 .any (Rows.realThereSpec.pre6 enc Try.prog Try.f10 Rows.realThereRow.domain false) (Rows.realThereSpec.post enc Try.prog Try.f10 false true false false) := by
  refine returnsInHanded_of_change (C := Try.checked) own started (by kernel_rfl) Try.func10
    (ChangeSpec.witness6 (enc := enc) (C := Try.checked) false ⟨#[], #[.int .u16 0, .int .i64 0], []⟩ 8 (by kernel_rfl) (by kernel_rfl) (by kernel_rfl) (by kernel_rfl)) ?_
  intro W base args ds gs before hval0 hW hcnd _
  have hval : ∀ (j : Nat) t v, Try.f10.params[j]? = some t → args[j]? = some v → Value.okWide Try.prog W .any base t v := hval0
  have hW' := hW
  obtain ⟨p, q, hA0, hV, rfl, hfz, hnd⟩ := hW
  have hA : DataW.TrodAll enc Try.prog W 0 (fun _ => true) true Try.f10.params.toList args.toList ds p := hA0
  rw [Try.params10] at hA hval
  obtain ⟨v0, vs0, d0, ds0, p0, q0, hargs, rfl, rfl, h0, r0⟩ := trodAll_cons hA
  obtain ⟨v1, vs1, d1, ds1, p1, q1, rfl, rfl, rfl, h1, r1⟩ := trodAll_cons r0
  obtain ⟨rfl, rfl, rfl⟩ := trodAll_nil r1
  obtain rfl : args = #[v0, v1] := by cases args; simp_all
  obtain ⟨rfl, rfl⟩ := trodVars_none hV
  obtain ⟨a0, rfl, rfl, rfl, w0⟩ := open_int Try.underlying23 (hval 0 23 v0 rfl rfl) h0
  obtain ⟨a1, rfl, rfl, rfl, w1⟩ := open_int Try.underlying2 (hval 1 2 v1 rfl rfl) h1
  clear hA0 hval0
  simp only [List.append_nil] at hW'
  refine (walk a0 a1 w0 w1 W).mono fun e W' ⟨he, hg⟩ => ?_
  subst he
  exact ⟨_, rfl, post_of_same (pa := []) (pv := []) hW' (fun _ _ _ => (trodAll_cons_mk (shut_bool Try.underlying4 _) trodAll_mk0)) (fun sp _ => (trodAll_cons_mk (shut_int Try.underlying23 w0) (trodAll_cons_mk (shut_int Try.underlying2 w1) trodAll_mk0))) (fun _ _ => rfl) rfl
    (hg.frame _) hg.2.1 (ok_one (by kernel_rfl) rfl (okWide_bool_mk Try.underlying4 _))⟩

theorem over : Rows.realThereRow.holds Try.pinned (OpenSpec.ofChange Rows.realThereSpec) :=
  OpenClaim.holds_of_wide 10 Try.f10 rfl rfl rfl rfl rfl rfl rfl ⟨rfl, rfl, rfl, rfl, rfl⟩ rfl rfl rfl rfl rfl (by kernel_rfl) Try.func10 (by kernel_rfl)
    (of_decide_eq_true (by kernel_rfl)) (by unfold Func.isWrapper; first | (rw [if_pos (by decide +kernel)]; kernel_rfl) | (rw [if_neg (by decide +kernel)]; exact ⟨rfl, rfl⟩))
    (fun os started H enc _ => lifted os started H enc)

/-- ████ THE STATEMENT ████ -/
theorem proved : Rows.RealThereSaid :=
  over
#print axioms proved
end Go.Proofs.Ytaichdcknoopdaa.realThere
