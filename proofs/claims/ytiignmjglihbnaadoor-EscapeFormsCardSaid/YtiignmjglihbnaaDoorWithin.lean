/- Contracts of escape.within at two ends, and of strings.IndexByte over the sixteen digits. -/
import Derived.Test.YtiignmjglihbnaaDoorStepAll
import Derived.Laws.StandIn
namespace Go.Proofs.YtiignmjglihbnaaDoor
open Go.RowKit
set_option linter.unusedVariables false

set_option maxRecDepth 100000 in
theorem within_any (c lo hi : Nat) (g : Nat) (w : World) (hb : Blk w g 5 #[.int .u8 lo, .int .u8 hi]) :
    Calls Tryd.prog 26 #[.int .u8 c, .slice (some ⟨g, 0, none⟩) 2 2] w fun e w' => e = .returned (.bool (decide (lo ≤ c ∧ c ≤ hi))) ∧ w' = w := by
  have c0 := hb.cell 0
  have c1 := hb.cell 1
  by_cases h1 : lo ≤ c
  · have h1' : (lo : Int) ≤ (c : Int) := by omega
    by_cases h2 : c ≤ hi
    · have h2' : (c : Int) ≤ (hi : Int) := by omega
      rw [show decide (lo ≤ c ∧ c ≤ hi) = true from decide_eq_true ⟨h1, h2⟩]
      clear hb h1 h2
      go_enter Tryd.func26, Tryd.ntmps26
      go_wp2_with fail
      refine wp_loop_rounds 2 ?_
      rw [rounds_succ]
      go_wp2_with fail
      go_ret
      exact ⟨rfl, rfl⟩
    · have h2' : ¬ ((c : Int) ≤ (hi : Int)) := by omega
      rw [show decide (lo ≤ c ∧ c ≤ hi) = false from decide_eq_false (by omega)]
      clear hb h1 h2
      go_enter Tryd.func26, Tryd.ntmps26
      go_wp2_with fail
      refine wp_loop_rounds 2 ?_
      rw [rounds_succ]
      go_wp2_with fail
      rw [rounds_succ]
      go_wp2_with fail
      go_ret
      exact ⟨rfl, rfl⟩
  · have h1' : ¬ ((lo : Int) ≤ (c : Int)) := by omega
    rw [show decide (lo ≤ c ∧ c ≤ hi) = false from decide_eq_false (by omega)]
    clear hb h1
    go_enter Tryd.func26, Tryd.ntmps26
    go_wp2_with fail
    refine wp_loop_rounds 2 ?_
    rw [rounds_succ]
    go_wp2_with fail
    rw [rounds_succ]
    go_wp2_with fail
    go_ret
    exact ⟨rfl, rfl⟩

def hexS : ByteArray := ⟨#[48, 49, 50, 51, 52, 53, 54, 55, 56, 57, 97, 98, 99, 100, 101, 102]⟩
def hexI (c : Nat) : Int := if 48 ≤ c ∧ c ≤ 57 then (c : Int) - 48 else if 97 ≤ c ∧ c ≤ 102 then (c : Int) - 87 else -1
theorem hexI_idx : ∀ c : Fin 256, firstIdx hexS (UInt8.ofNat c.val) = hexI c.val := by decide +kernel

set_option maxRecDepth 100000 in
set_option maxRecDepth 100000 in
theorem slByte (c : Nat) (hc : c < 256) (w : World) :
    Calls Tryd.prog 54 #[.string hexS, .int .u8 c] w fun e w' => e = .returned (.int .i64 (hexI c)) ∧ w' = w := by
  have hr := run_indexByte_string (P := Tryd.prog) hexS (c : Int)
  have hi : firstIdx hexS ((c : Int).toNat.toUInt8) = hexI c := hexI_idx ⟨c, hc⟩
  rw [hi] at hr
  have hx := run_callFunc_indexByte Tryd.func55 (by kernel_rfl) (by kernel_rfl) (by kernel_rfl) (by kernel_rfl)
  have hcall : ∀ w, (callFunc 55 #[.string hexS, .int .u8 c]).run Tryd.prog w = .ok (.value (.int .i64 (hexI c))) w := by
    intro w
    rw [hx, hr]
    rfl
  generalize hexS = S at *
  generalize hexI c = d at *
  clear hr hx hi
  go_enter Tryd.func54, Tryd.ntmps54
  go_wp2_with fail
  go_ret
  exact ⟨rfl, rfl⟩
set_option maxRecDepth 100000 in
theorem indexByte (c : Nat) (hc : c < 256) (w : World) :
    Calls Tryd.prog 48 #[.string hexS, .int .u8 c] w fun e w' => e = .returned (.int .i64 (hexI c)) ∧ w' = w := by
  have hr := Lib.hid (slByte c hc w)
  generalize hexS = S at *
  generalize hexI c = d at *
  go_enter Tryd.func48, Tryd.ntmps48
  go_wp2_with fail
  refine hr.out.mono ?_
  rintro e w' ⟨rfl, rfl⟩
  go_wp2_with fail
  go_ret
  exact ⟨rfl, rfl⟩
end Go.Proofs.YtiignmjglihbnaaDoor
