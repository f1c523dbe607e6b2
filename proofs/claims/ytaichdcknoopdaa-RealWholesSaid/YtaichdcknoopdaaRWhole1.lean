/- Contract of crucibleref05.Whole: the finite arm. -/
import Derived.Test.YtaichdcknoopdaaRWhole
import Derived.Deep.DeepCutAuto
import Derived.Deep.CutBlock
namespace Go.Proofs.Ytaichdcknoopdaa
open Go.RowKit

set_option maxRecDepth 100000 in
set_option maxHeartbeats 4000000 in
theorem rwhole_fin (n : Nat) (hn : n < 18446744073709551616) (hf : n % 9223372036854775808 < 9218868437227405312) (w : World) :
    Calls Try.prog 34 #[.int .u64 n] w fun e w' => e = .returned (.tuple #[.int .i64 (wholeR n).1, .bool (wholeR n).2]) ∧ w = w' := by
  have hi : decide (n % 9223372036854775808 = 9218868437227405312) = false := by
    rw [decide_eq_false_iff_not]; omega
  have hnn : nan64 n = false := by simp [nan64]; omega
  have HI := Lib.hid (hi ▸ isInf_any n hn w)
  have HN := Lib.hid (hnn ▸ isNaN_any n hn w)
  have HP := Lib.hid (parts_any n hn w)
  have HM := Lib.hid (parts_mag n hf)
  have HG := Lib.hid (neg_any n w)
  have HE := Lib.hid (whole_end n)
  clear hn hf hi hnn
  obtain ⟨W, hW⟩ : ∃ W, W = wholeR n := ⟨_, rfl⟩
  obtain ⟨mg, hmg⟩ : ∃ mg, mg = mag64 (n % 9223372036854775808) := ⟨_, rfl⟩
  rw [← hW, ← hmg] at HE
  rw [← hmg] at HM
  rw [← hW]
  clear hW hmg
  go_enter Try.func34, Try.ntmps34
  go_wp2_with fail
  refine HN.out.mono ?_
  rintro e w' ⟨rfl, rfl⟩
  go_wp2_with fail
  refine HI.out.mono ?_
  rintro e w' ⟨rfl, rfl⟩
  go_wp2_with fail
  refine HP.out.mono ?_
  rintro e w' ⟨rfl, rfl⟩
  go_upto_block 0 with fail
  go_cut [4, 5] (fun v4 v5 wx => WRel2 w mg v4 v5 wx)
  case first =>
    go_wp2_with fail
    go_loopw [4, 5] (fun v4 v5 wr => WRel w mg v4 v5 wr) (fun _ v5 _ => (- intOf v5).toNat)
    case atStart => exact ⟨_, _, rfl, rfl, by have := HM.out.2.1; omega, HM.out.2.2.1, by have := HM.out.2.2.2; omega, HM.out.1, rfl⟩
    case round =>
      obtain ⟨m, e, rfl, rfl, hm, he0, he1, hmag, rfl⟩ := hrel
      have HMAG := Lib.hid hmag
      clear hmag
      have m0 : 0 ≤ (m : Int) := by omega
      by_cases hgo : e < 0 ∧ m % 2 = 0 ∧ 0 < m
      · obtain ⟨g1, g2, g3⟩ := hgo
        have HH := Lib.hid ((halve_eq m e he0 g2).trans HMAG.out)
        have q1 : (m : Int) % 2 = 0 := by omega
        have q2 : 0 < (m : Int) := by omega
        have q3 : IntKind.i64.wrap (e + 1) = e + 1 := IntWalk.i64_in _ (by omega)
        go_wp2_with fail
        go_roundw
        case rel => exact ⟨m / 2, e + 1, by go_num, rfl, by omega, by omega, by omega, HH.out, rfl⟩
        case measure => simp [intOf]; omega
      · have HE : Hid (e < 0 → m % 2 = 1 ∨ m = 0) := Lib.hid (fun g => by omega)
        have hcases : ¬ e < 0 ∨ (e < 0 ∧ m % 2 ≠ 0) ∨ (e < 0 ∧ m = 0) := by omega
        rcases hcases with g | ⟨g, g2⟩ | ⟨g, g2⟩
        · clear hgo
          go_wp2_with fail
          go_meet
          case rel => exact ⟨_, _, rfl, rfl, hm, he0, he1, HMAG.out, HE.out, rfl⟩
        · have q1 : (m : Int) % 2 = 1 := by omega
          clear hgo g2
          go_wp2_with fail
          go_meet
          case rel => exact ⟨_, _, rfl, rfl, hm, he0, he1, HMAG.out, HE.out, rfl⟩
        · subst g2
          clear hgo
          go_wp2_with fail
          go_meet
          case rel => exact ⟨0, e, rfl, rfl, hm, he0, he1, HMAG.out, fun _ => Or.inr rfl, rfl⟩
  case rest =>
    obtain ⟨m, e, rfl, rfl, hm, he0, he1, hmag, hpar, rfl⟩ := hcut
    have HMAG := Lib.hid hmag
    have HPAR := Lib.hid hpar
    clear hmag hpar
    go_wp2_with fail
    go_loopw [4, 5] (fun v4 v5 wr => WRel2 w mg v4 v5 wr) (fun _ v5 _ => (intOf v5).toNat)
    case atStart => exact ⟨_, _, rfl, rfl, hm, he0, he1, HMAG.out, HPAR.out, rfl⟩
    case round =>
      clear HMAG HPAR hm he0 he1
      obtain ⟨m, e, rfl, rfl, hm, he0, he1, hmag, hpar, rfl⟩ := hrel
      have HMAG := Lib.hid hmag
      have HPAR := Lib.hid hpar
      clear hmag hpar
      have m0 : 0 ≤ (m : Int) := by omega
      by_cases hgo : 0 < e ∧ 0 < m ∧ m < 9223372036854775808
      · obtain ⟨g1, g2, g3⟩ := hgo
        have HH := Lib.hid ((double_eq m e g1).trans HMAG.out)
        have q2 : 0 < (m : Int) := by omega
        have q4 : (m : Int) < 9223372036854775808 := by omega
        have q5 : IntKind.u64.wrap ((m : Int) * 2) = (m : Int) * 2 := IntWalk.u64_in _ (by omega)
        have q3 : IntKind.i64.wrap (e - 1) = e - 1 := IntWalk.i64_in _ (by omega)
        go_wp2_with fail
        go_roundw
        case rel => exact ⟨m * 2, e - 1, by go_num, rfl, by omega, by omega, by omega, HH.out, fun h => absurd h (by omega), rfl⟩
        case measure => simp [intOf]; omega
      · have h2 : 0 < e → m = 0 ∨ 9223372036854775808 ≤ m := by omega
        have HEND := Lib.hid (HE.out m e he0 HMAG.out HPAR.out h2)
        clear HMAG HPAR h2 HE
        by_cases m00 : m = 0
        · subst m00
          have HR : Hid (W = (0, true)) := Lib.hid (by have := HEND.out; rwa [if_pos rfl] at this)
          clear HEND hgo
          by_cases ge : 0 < e
          · go_wp2_with fail
            go_ret2
            exact ⟨by rw [HR.out] <;> rfl, rfl⟩
          · go_wp2_with fail
            go_ret2
            exact ⟨by rw [HR.out] <;> rfl, rfl⟩
        · have q0 : ((m : Int) == 0) = false := by rw [beq_eq_false_iff_ne]; omega
          by_cases he : e = 0
          · subst he
            by_cases hs : 9223372036854775808 ≤ n
            · rw [decide_eq_true hs] at HG
              by_cases hc : 9223372036854775808 < m
              · have HR : Hid (W = (0, false)) := Lib.hid (by have := HEND.out; rwa [if_neg m00, if_pos (Or.inr (Or.inl hc))] at this)
                have q2 : (9223372036854775808 : Int) < (m : Int) := by omega
                clear HEND hgo m00 hs hc hm he0 he1
                generalize (m : Int) = M at *
                go_wp2_with fail
                go_ret2
                exact ⟨by rw [HR.out] <;> rfl, rfl⟩
              · have HR : Hid (W = (-(m : Int), true)) := Lib.hid (by have := HEND.out; rwa [if_neg m00, if_neg (show ¬ ((0 : Int) ≠ 0 ∨ 9223372036854775808 < m ∨ (m = 9223372036854775808 ∧ n < 9223372036854775808)) by omega), if_pos hs] at this)
                have w1 : IntKind.u64.wrap ((m : Int) - 1) = (m : Int) - 1 := IntWalk.u64_in _ (by omega)
                have w2 : IntKind.i64.wrap ((m : Int) - 1) = (m : Int) - 1 := IntWalk.i64_in _ (by omega)
                have w3 : IntKind.i64.wrap (-((m : Int) - 1)) = -((m : Int) - 1) := IntWalk.i64_in _ (by omega)
                have w4 : IntKind.i64.wrap (-((m : Int) - 1) - 1) = -((m : Int) - 1) - 1 := IntWalk.i64_in _ (by omega)
                have w5 : Hid (-((m : Int) - 1) - 1 = -(m : Int)) := Lib.hid (by omega)
                have q2 : (m : Int) ≤ 9223372036854775808 := by omega
                by_cases ht : m = 9223372036854775808
                · have q3 : ((m : Int) == 9223372036854775808) = true := by rw [beq_iff_eq]; omega
                  clear HEND hgo m00 hs hc hm he0 he1 ht
                  generalize (m : Int) = M at *
                  go_wp2_with fail
                  refine HG.out.mono ?_
                  rintro e w' ⟨rfl, rfl⟩
                  go_wp2_with fail
                  refine HG.out.mono ?_
                  rintro e w' ⟨rfl, rfl⟩
                  go_wp2_with fail
                  go_ret2
                  exact ⟨by rw [HR.out, ← w5.out] <;> rfl, rfl⟩
                · have q3 : ((m : Int) == 9223372036854775808) = false := by rw [beq_eq_false_iff_ne]; omega
                  clear HEND hgo m00 hs hc hm he0 he1 ht
                  generalize (m : Int) = M at *
                  go_wp2_with fail
                  refine HG.out.mono ?_
                  rintro e w' ⟨rfl, rfl⟩
                  go_wp2_with fail
                  go_ret2
                  exact ⟨by rw [HR.out, ← w5.out] <;> rfl, rfl⟩
            · rw [decide_eq_false hs] at HG
              by_cases hc : 9223372036854775808 < m
              · have HR : Hid (W = (0, false)) := Lib.hid (by have := HEND.out; rwa [if_neg m00, if_pos (Or.inr (Or.inl hc))] at this)
                have q2 : (9223372036854775808 : Int) < (m : Int) := by omega
                clear HEND hgo m00 hs hc hm he0 he1
                generalize (m : Int) = M at *
                go_wp2_with fail
                go_ret2
                exact ⟨by rw [HR.out] <;> rfl, rfl⟩
              · have q2 : (m : Int) ≤ 9223372036854775808 := by omega
                by_cases ht : m = 9223372036854775808
                · have HR : Hid (W = (0, false)) := Lib.hid (by have := HEND.out; rwa [if_neg m00, if_pos (Or.inr (Or.inr ⟨ht, by omega⟩))] at this)
                  have q3 : ((m : Int) == 9223372036854775808) = true := by rw [beq_iff_eq]; omega
                  clear HEND hgo m00 hs hc hm he0 he1 ht
                  generalize (m : Int) = M at *
                  go_wp2_with fail
                  refine HG.out.mono ?_
                  rintro e w' ⟨rfl, rfl⟩
                  go_wp2_with fail
                  go_ret2
                  exact ⟨by rw [HR.out] <;> rfl, rfl⟩
                · have HR : Hid (W = ((m : Int), true)) := Lib.hid (by have := HEND.out; rwa [if_neg m00, if_neg (show ¬ ((0 : Int) ≠ 0 ∨ 9223372036854775808 < m ∨ (m = 9223372036854775808 ∧ n < 9223372036854775808)) by omega), if_neg hs] at this)
                  have q3 : ((m : Int) == 9223372036854775808) = false := by rw [beq_eq_false_iff_ne]; omega
                  have w2 : IntKind.i64.wrap (m : Int) = (m : Int) := IntWalk.i64_in _ (by omega)
                  clear HEND hgo m00 hs hc hm he0 he1 ht
                  generalize (m : Int) = M at *
                  go_wp2_with fail
                  refine HG.out.mono ?_
                  rintro e w' ⟨rfl, rfl⟩
                  go_wp2_with fail
                  go_ret2
                  exact ⟨by rw [HR.out] <;> rfl, rfl⟩
          · have HR : Hid (W = (0, false)) := Lib.hid (by have := HEND.out; rwa [if_neg m00, if_pos (Or.inl he)] at this)
            have q1 : (e != 0) = true := by rw [bne_iff_ne]; exact he
            clear HEND
            by_cases ge : 0 < e
            · have q2 : (9223372036854775808 : Int) ≤ (m : Int) := by omega
              have q3 : 0 < (m : Int) := by omega
              clear hgo m00 he hm
              generalize (m : Int) = M at *
              go_wp2_with fail
              go_ret2
              exact ⟨by rw [HR.out] <;> rfl, rfl⟩
            · clear hgo m00 he
              go_wp2_with fail
              go_ret2
              exact ⟨by rw [HR.out] <;> rfl, rfl⟩
end Go.Proofs.Ytaichdcknoopdaa
