/- Contract of (*crucibleref10.State).stroke, whole, and of Step behind a backslash. -/
import Derived.Test.YtjfeebbhkolmoaaDoorR10Stroke
import Derived.Test.YtjfeebbhkolmoaaDoorR10Step
namespace Go.Proofs.YtjfeebbhkolmoaaDoor.R
open Go.RowKit
set_option linter.unusedVariables false

def letM (c : Nat) : Option Nat := if c = 34 then some 34 else if c = 92 then some 92 else if c = 47 then some 47 else if c = 98 then some 8 else if c = 102 then some 12 else if c = 110 then some 10 else if c = 114 then some 13 else if c = 116 then some 9 else none
theorem let_yes : ∀ J, J < 8 → letM (fromL J) = some (toL J) := by decide
theorem let_no (c : Nat) (h : letM c = none) : (∀ j, j < 8 → fromL j ≠ c) := by
  intro j hj e
  have := let_yes j hj
  rw [e, h] at this
  exact absurd this (by simp)
theorem let_some (c m : Nat) (h : letM c = some m) : ∃ J, J < 8 ∧ fromL J = c ∧ toL J = m := by
  unfold letM at h
  by_cases h0 : c = 34
  · rw [if_pos h0] at h; injection h with h; exact ⟨0, by decide, h0.symm, h⟩
  rw [if_neg h0] at h
  by_cases h1 : c = 92
  · rw [if_pos h1] at h; injection h with h; exact ⟨1, by decide, h1.symm, h⟩
  rw [if_neg h1] at h
  by_cases h2 : c = 47
  · rw [if_pos h2] at h; injection h with h; exact ⟨2, by decide, h2.symm, h⟩
  rw [if_neg h2] at h
  by_cases h3 : c = 98
  · rw [if_pos h3] at h; injection h with h; exact ⟨3, by decide, h3.symm, h⟩
  rw [if_neg h3] at h
  by_cases h4 : c = 102
  · rw [if_pos h4] at h; injection h with h; exact ⟨4, by decide, h4.symm, h⟩
  rw [if_neg h4] at h
  by_cases h5 : c = 110
  · rw [if_pos h5] at h; injection h with h; exact ⟨5, by decide, h5.symm, h⟩
  rw [if_neg h5] at h
  by_cases h6 : c = 114
  · rw [if_pos h6] at h; injection h with h; exact ⟨6, by decide, h6.symm, h⟩
  rw [if_neg h6] at h
  by_cases h7 : c = 116
  · rw [if_pos h7] at h; injection h with h; exact ⟨7, by decide, h7.symm, h⟩
  rw [if_neg h7] at h
  exact absurd h (by simp)

def strokeStep (s : St) (c : Nat) : St × Bool :=
  match letM c with
  | some m => ({ s with mode := 1, text := s.text ++ [m] }, true)
  | none => ({ s with mode := 3, left := 4, number := 0 }, decide (c = 117))

theorem stroke_any (w : World) (S : Nat → Prop) (g : Nat) (s : St) (c : Nat) (hs : StAt w S g s) (hl : s.text.length ≤ 140737488355000) :
    Calls Tryd.prog 88 #[.pointer (some ⟨g, 3, none⟩), .int .u8 c] w (StPost w S g (strokeStep s c).1 (strokeStep s c).2) := by
  unfold strokeStep
  cases h : letM c with
  | none =>
    by_cases h1 : c = 117
    · subst h1; exact stroke_u w S g s hs
    · rw [show decide (c = 117) = false from decide_eq_false h1]; exact stroke_no w S g s hs c (let_no c h) h1
  | some m =>
    obtain ⟨J, hJ, rfl, rfl⟩ := let_some c m h
    exact stroke_letter w S g s hs hl J hJ

set_option maxRecDepth 100000 in
theorem step_stroke (w : World) (S : Nat → Prop) (g : Nat) (s : St) (c : Nat) (hm : s.mode = 2) (hs : StAt w S g s) (hl : s.text.length ≤ 140737488355000) :
    Calls Tryd.prog 74 #[.pointer (some ⟨g, 3, none⟩), .int .u8 c] w (StPost w S g (strokeStep s c).1 (strokeStep s c).2) := by
  have HI := Lib.hid (stroke_any w S g s c hs hl)
  obtain ⟨v, hb, -, -⟩ := hs
  have c0 := hb.cell 3
  unfold stCells at c0
  rw [hm] at c0
  clear hb hm hl
  generalize (strokeStep s c).1 = s2 at *
  generalize (strokeStep s c).2 = ok at *
  go_enter Tryd.func74, Tryd.ntmps74
  go_wp2_with fail
  refine HI.out.mono ?_
  rintro e w2 ⟨rfl, h1⟩
  have H1 := Lib.hid h1
  clear h1
  go_wp2_with fail
  go_ret
  exact ⟨rfl, H1.out⟩
end Go.Proofs.YtjfeebbhkolmoaaDoor.R
