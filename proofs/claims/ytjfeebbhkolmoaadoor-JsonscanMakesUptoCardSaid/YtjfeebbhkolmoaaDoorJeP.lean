/- Chapter 10 in plain Lean: the State byte by byte, the literal of a text (for seat json). -/
import Derived.Test.YtjfeebbhkolmoaaDoorJeU
import Derived.Deep.RegionLaw
import Derived.LaidEql
import Derived.Stop.Asserts
import Derived.RowKitTokens
import Derived.Stop.LaidTwo
import Derived.LaidHandle
import Derived.Deep.CutBlock
import Derived.Laws.IdiomStrings
import Derived.Deep.AppendLies
namespace Go.Proofs.YtjfeebbhkolmoaaDoor.E
open Go.RowKit
set_option linter.unusedVariables false

section
open Go.RowKit
/-- crucibleref10's State -/
structure St where
  mode : Int
  left : Int
  number : Int
  high : Int
  low : Nat
  most : Nat
  text : List Nat
def inside (s : St) (c : Nat) : St × Bool :=
  if c = 34 then ({ s with mode := 7 }, true)
  else if c = 92 then ({ s with mode := 2 }, true)
  else if c < 32 ∨ (127 < c ∧ c < 194) ∨ 244 < c then (s, false)
  else if c < 128 then ({ s with text := s.text ++ [c] }, true)
  else ({ s with text := s.text ++ [c], mode := 6, low := loB c, most := hiB c, left := if 240 ≤ c then 3 else if 224 ≤ c then 2 else 1 }, true)
end
section
open Go.RowKit
def bytesStep (s : St) (c : Nat) : St × Bool :=
  if c < s.low ∨ s.most < c then (s, false)
  else ({ s with text := s.text ++ [c], low := 128, most := 191, left := s.left - 1, mode := if s.left - 1 = 0 then 1 else s.mode }, true)
end
section
open Go.RowKit
/-- the letters behind a backslash, and what they mean -/
def fromL (j : Nat) : Nat := [34, 92, 47, 98, 102, 110, 114, 116].getD j 0
def toL (j : Nat) : Nat := [34, 92, 47, 8, 12, 10, 13, 9].getD j 0
theorem from_0 (w : World) : (Instr.index 9 (.string ⟨#[34, 92, 47, 98, 102, 110, 114, 116]⟩) (.int .i64 0)).run Tryd.prog w = .ok (.int .u8 34) w := by kernel_rfl
theorem from_1 (w : World) : (Instr.index 9 (.string ⟨#[34, 92, 47, 98, 102, 110, 114, 116]⟩) (.int .i64 1)).run Tryd.prog w = .ok (.int .u8 92) w := by kernel_rfl
theorem from_2 (w : World) : (Instr.index 9 (.string ⟨#[34, 92, 47, 98, 102, 110, 114, 116]⟩) (.int .i64 2)).run Tryd.prog w = .ok (.int .u8 47) w := by kernel_rfl
theorem from_3 (w : World) : (Instr.index 9 (.string ⟨#[34, 92, 47, 98, 102, 110, 114, 116]⟩) (.int .i64 3)).run Tryd.prog w = .ok (.int .u8 98) w := by kernel_rfl
theorem from_4 (w : World) : (Instr.index 9 (.string ⟨#[34, 92, 47, 98, 102, 110, 114, 116]⟩) (.int .i64 4)).run Tryd.prog w = .ok (.int .u8 102) w := by kernel_rfl
theorem from_5 (w : World) : (Instr.index 9 (.string ⟨#[34, 92, 47, 98, 102, 110, 114, 116]⟩) (.int .i64 5)).run Tryd.prog w = .ok (.int .u8 110) w := by kernel_rfl
theorem from_6 (w : World) : (Instr.index 9 (.string ⟨#[34, 92, 47, 98, 102, 110, 114, 116]⟩) (.int .i64 6)).run Tryd.prog w = .ok (.int .u8 114) w := by kernel_rfl
theorem from_7 (w : World) : (Instr.index 9 (.string ⟨#[34, 92, 47, 98, 102, 110, 114, 116]⟩) (.int .i64 7)).run Tryd.prog w = .ok (.int .u8 116) w := by kernel_rfl
theorem from_at (j : Nat) (h : j < 8) (w : World) : (Instr.index 9 (.string ⟨#[34, 92, 47, 98, 102, 110, 114, 116]⟩) (.int .i64 j)).run Tryd.prog w = .ok (.int .u8 (fromL j : Nat)) w := by
  have : j = 0 ∨ j = 1 ∨ j = 2 ∨ j = 3 ∨ j = 4 ∨ j = 5 ∨ j = 6 ∨ j = 7 := by omega
  rcases this with rfl | rfl | rfl | rfl | rfl | rfl | rfl | rfl
  · exact from_0 w
  · exact from_1 w
  · exact from_2 w
  · exact from_3 w
  · exact from_4 w
  · exact from_5 w
  · exact from_6 w
  · exact from_7 w
theorem to_0 (w : World) : (Instr.index 9 (.string ⟨#[34, 92, 47, 8, 12, 10, 13, 9]⟩) (.int .i64 0)).run Tryd.prog w = .ok (.int .u8 34) w := by kernel_rfl
theorem to_1 (w : World) : (Instr.index 9 (.string ⟨#[34, 92, 47, 8, 12, 10, 13, 9]⟩) (.int .i64 1)).run Tryd.prog w = .ok (.int .u8 92) w := by kernel_rfl
theorem to_2 (w : World) : (Instr.index 9 (.string ⟨#[34, 92, 47, 8, 12, 10, 13, 9]⟩) (.int .i64 2)).run Tryd.prog w = .ok (.int .u8 47) w := by kernel_rfl
theorem to_3 (w : World) : (Instr.index 9 (.string ⟨#[34, 92, 47, 8, 12, 10, 13, 9]⟩) (.int .i64 3)).run Tryd.prog w = .ok (.int .u8 8) w := by kernel_rfl
theorem to_4 (w : World) : (Instr.index 9 (.string ⟨#[34, 92, 47, 8, 12, 10, 13, 9]⟩) (.int .i64 4)).run Tryd.prog w = .ok (.int .u8 12) w := by kernel_rfl
theorem to_5 (w : World) : (Instr.index 9 (.string ⟨#[34, 92, 47, 8, 12, 10, 13, 9]⟩) (.int .i64 5)).run Tryd.prog w = .ok (.int .u8 10) w := by kernel_rfl
theorem to_6 (w : World) : (Instr.index 9 (.string ⟨#[34, 92, 47, 8, 12, 10, 13, 9]⟩) (.int .i64 6)).run Tryd.prog w = .ok (.int .u8 13) w := by kernel_rfl
theorem to_7 (w : World) : (Instr.index 9 (.string ⟨#[34, 92, 47, 8, 12, 10, 13, 9]⟩) (.int .i64 7)).run Tryd.prog w = .ok (.int .u8 9) w := by kernel_rfl
theorem to_at (j : Nat) (h : j < 8) (w : World) : (Instr.index 9 (.string ⟨#[34, 92, 47, 8, 12, 10, 13, 9]⟩) (.int .i64 j)).run Tryd.prog w = .ok (.int .u8 (toL j : Nat)) w := by
  have : j = 0 ∨ j = 1 ∨ j = 2 ∨ j = 3 ∨ j = 4 ∨ j = 5 ∨ j = 6 ∨ j = 7 := by omega
  rcases this with rfl | rfl | rfl | rfl | rfl | rfl | rfl | rfl
  · exact to_0 w
  · exact to_1 w
  · exact to_2 w
  · exact to_3 w
  · exact to_4 w
  · exact to_5 w
  · exact to_6 w
  · exact to_7 w
theorem from_ne : ∀ a, a < 8 → ∀ b, b < a → fromL b ≠ fromL a := by decide
theorem app1 {ops : Array Oper} {o : Oper} {a : Act} {K : Act → World → Prop} {Q : Exit → Act → World → Prop} {E : Prop} (w0 : World) (base n : Nat) (u : Value) (xs : List Value) (X : Nat) (hgd : o.guard = none)
    (ho : o.op = .call { callee := .builtin .append, args := #[.tmp 26, .tmp 30], argTypes := #[35, 35] }) (hs : a.eval (.tmp 26) = u) (hx : a.eval (.tmp 30) = .slice (some ⟨w0.drew.heap.size, 0, none⟩) 1 1)
    (hown : w0.ownsRow base 5 1 u n xs) (hn : n + 1 ≤ maxLen) (hn2 : (n + 1) * 1 ≤ 140737488355328) (hb : base ≤ w0.heap.size)
    (h : ∀ v' w', w'.ownsRow base 5 1 v' (n + 1) (xs ++ [.int .u8 X]) → (w0.drew.alloc (.cells #[.int .u8 X] 5)).grownBy w' u.ownBlock → K (a.put o.dst v') w') :
    if Region.wanted o (yielded ops a.tmps) = true then Oper.wp Tryd.prog o a (w0.drew.alloc (.cells #[.int .u8 X] 5)) K Q else E := by
  obtain ⟨i0, hi, hz0, hz1, hz2⟩ := info_parts info_u8
  have hw : Region.wanted o (yielded ops a.tmps) = true := by simp [Region.wanted, hgd]
  rw [if_pos hw]
  exact wp_append_own _ (.tmp 26) (.tmp 30) 35 ho base 5 i0 (.int .u8 0) 1 1 Tryd.underlying35 hi hz0 hz1 hz2 rfl (by decide) u n xs hs ((show w0.drew.ownsRow base 5 1 u n xs from hown).alloc _) ⟨w0.drew.heap.size, 0, none⟩ 1 1 [.int .u8 X] hx rfl
    (World.news_of_block (cs := #[.int .u8 X]) (t := 5) (fr := (0, 0)) (heap_alloc_new w0.drew _)) (by intro v hv; simp at hv; subst hv; rfl) hn (by omega) (by simp; omega) (fun v' w' h1 h2 _ => h v' w' h1 h2)
def StrokeRel (w : World) (J : Nat) (v7 : Value) (wr : World) : Prop := ∃ j : Nat, j ≤ J ∧ v7 = .int .i64 j ∧ w = wr
end
section
open Go.RowKit
def letM (c : Nat) : Option Nat := if c = 34 then some 34 else if c = 92 then some 92 else if c = 47 then some 47 else if c = 98 then some 8 else if c = 102 then some 12 else if c = 110 then some 10 else if c = 114 then some 13 else if c = 116 then some 9 else none
theorem let_yes : ∀ J, J < 8 → letM (fromL J) = some (toL J) := by decide
theorem let_no (c : Nat) (h : letM c = none) : (∀ j, j < 8 → fromL j ≠ c) := by
  intro j hj e
  have := let_yes j hj
  rw [e, h] at this
  exact absurd this (by simp)
theorem let_some (c m : Nat) (h : letM c = some m) : ∃ J, J < 8 ∧ fromL J = c ∧ toL J = m := by
  unfold letM at h
  by_cases h0 : c = 34
  · rw [if_pos h0] at h; injection h with h; exact ⟨0, by decide, h0.symm, h⟩
  rw [if_neg h0] at h
  by_cases h1 : c = 92
  · rw [if_pos h1] at h; injection h with h; exact ⟨1, by decide, h1.symm, h⟩
  rw [if_neg h1] at h
  by_cases h2 : c = 47
  · rw [if_pos h2] at h; injection h with h; exact ⟨2, by decide, h2.symm, h⟩
  rw [if_neg h2] at h
  by_cases h3 : c = 98
  · rw [if_pos h3] at h; injection h with h; exact ⟨3, by decide, h3.symm, h⟩
  rw [if_neg h3] at h
  by_cases h4 : c = 102
  · rw [if_pos h4] at h; injection h with h; exact ⟨4, by decide, h4.symm, h⟩
  rw [if_neg h4] at h
  by_cases h5 : c = 110
  · rw [if_pos h5] at h; injection h with h; exact ⟨5, by decide, h5.symm, h⟩
  rw [if_neg h5] at h
  by_cases h6 : c = 114
  · rw [if_pos h6] at h; injection h with h; exact ⟨6, by decide, h6.symm, h⟩
  rw [if_neg h6] at h
  by_cases h7 : c = 116
  · rw [if_pos h7] at h; injection h with h; exact ⟨7, by decide, h7.symm, h⟩
  rw [if_neg h7] at h
  exact absurd h (by simp)
def strokeStep (s : St) (c : Nat) : St × Bool :=
  match letM c with
  | some m => ({ s with mode := 1, text := s.text ++ [m] }, true)
  | none => ({ s with mode := 3, left := 4, number := 0 }, decide (c = 117))
end
section
open Go.RowKit
/-- a digit of base 16; -1: none -/
def digZ (c : Nat) : Int := if 48 ≤ c ∧ c ≤ 57 then (c : Int) - 48 else if 97 ≤ c ∧ c ≤ 102 then (c : Int) - 87 else if 65 ≤ c ∧ c ≤ 70 then (c : Int) - 55 else -1
/-- the bytes of a code point -/
def encN (n : Nat) : List Nat :=
  if n < 128 then [n] else if n < 2048 then [192 + n / 64, 128 + n % 64] else if n < 65536 then [224 + n / 4096, 128 + n / 64 % 64, 128 + n % 64]
  else [240 + n / 262144, 128 + n / 4096 % 64, 128 + n / 64 % 64, 128 + n % 64]
def EncPost (w : World) (n : Nat) (e : Ending) (w' : World) : Prop :=
  ∃ g k, e = .returned (.slice (some ⟨g, 0, none⟩) k k) ∧ k = (encN n).length ∧ w'.heap[g]? = some (.cells (vals .u8 (encN n)).toArray 5 (0, 0)) ∧ Below w.heap.size w w'
end
section
open Go.RowKit
theorem digZ_range (c : Nat) : -1 ≤ digZ c ∧ digZ c ≤ 15 := by unfold digZ; repeat' split; all_goals omega
end
section
open Go.RowKit
theorem encN_len (n : Nat) : 1 ≤ (encN n).length ∧ (encN n).length ≤ 4 := by
  unfold encN
  by_cases h1 : n < 128
  · rw [if_pos h1]; simp
  rw [if_neg h1]
  by_cases h2 : n < 2048
  · rw [if_pos h2]; simp
  rw [if_neg h2]
  by_cases h3 : n < 65536
  · rw [if_pos h3]; simp
  rw [if_neg h3]; simp
theorem vals_one' (x : Value) (ys : List Nat) (h : x ∈ vals .u8 ys) : x.oneCell' = true := by
  unfold vals at h
  obtain ⟨y, -, rfl⟩ := List.mem_map.1 h
  rfl
/-- append of a whole block of bytes, as a step of a region that draws -/
theorem appE {ops : Array Oper} {o : Oper} {a : Act} {K : Act → World → Prop} {Q : Exit → Act → World → Prop} {E : Prop} (tS tX : Nat) (w0 : World) (base n gx k : Nat) (u : Value) (xs : List Value) (ys : List Nat) (hgd : o.guard = none)
    (ho : o.op = .call { callee := .builtin .append, args := #[.tmp tS, .tmp tX], argTypes := #[35, 35] }) (hs : a.eval (.tmp tS) = u) (hx : a.eval (.tmp tX) = .slice (some ⟨gx, 0, none⟩) k k) (hk : k = ys.length) (hk4 : k ≤ 4)
    (hcell : w0.heap[gx]? = some (.cells (vals .u8 ys).toArray 5 (0, 0)))
    (hown : w0.ownsRow base 5 1 u n xs) (hn : n + 4 ≤ maxLen) (hn2 : (n + 4) * 1 ≤ 140737488355328) (hb : base ≤ w0.heap.size)
    (h : ∀ v' w', w'.ownsRow base 5 1 v' (n + k) (xs ++ vals .u8 ys) → w0.grownBy w' u.ownBlock → K (a.put o.dst v') w') :
    if Region.wanted o (yielded ops a.tmps) = true then Oper.wp Tryd.prog o a w0 K Q else E := by
  obtain ⟨i0, hi, hz0, hz1, hz2⟩ := info_parts info_u8
  have hw : Region.wanted o (yielded ops a.tmps) = true := by simp [Region.wanted, hgd]
  rw [if_pos hw]
  exact wp_append_own _ (.tmp tS) (.tmp tX) 35 ho base 5 i0 (.int .u8 0) 1 1 Tryd.underlying35 hi hz0 hz1 hz2 rfl (by decide) u n xs hs hown ⟨gx, 0, none⟩ k k (vals .u8 ys) hx (by rw [hk]; unfold vals; simp)
    (World.news_of_block (cs := (vals .u8 ys).toArray) (t := 5) (fr := (0, 0)) hcell) (fun v hv => vals_one' v ys hv) (by omega) (by omega) hb (fun v' w' h1 h2 _ => h v' w' h1 h2)
end
section
open Go.RowKit
def digitsStep (s : St) (c : Nat) : St × Bool :=
  if digZ c < 0 then (s, false)
  else if s.left = 4 then ({ s with number := 16 * s.number + digZ c, left := 3 }, decide (s.high = 0 ∨ 16 * s.number + digZ c = 13))
  else if s.left = 3 then ({ s with number := 16 * s.number + digZ c, left := 2 }, decide (s.high = 0 ↔ ¬ (220 ≤ 16 * s.number + digZ c ∧ 16 * s.number + digZ c ≤ 223)))
  else if s.left = 2 then ({ s with number := 16 * s.number + digZ c, left := 1 }, true)
  else if 0 < s.high then ({ s with number := 16 * s.number + digZ c, left := 0, mode := 1, high := 0, text := s.text ++ encN (65536 + (s.high - 55296) * 1024 + (16 * s.number + digZ c) - 56320).toNat }, true)
  else if 55296 ≤ 16 * s.number + digZ c ∧ 16 * s.number + digZ c ≤ 56319 then ({ s with number := 16 * s.number + digZ c, left := 0, mode := 4, high := 16 * s.number + digZ c }, true)
  else ({ s with number := 16 * s.number + digZ c, left := 0, mode := 1, text := s.text ++ encN (16 * s.number + digZ c).toNat }, true)
/-- the number so far is in its bounds -/
def InD (s : St) : Prop := 1 ≤ s.left ∧ s.left ≤ 4 ∧ 0 ≤ s.number ∧ (s.left = 4 → s.number = 0) ∧ (s.left = 3 → s.number ≤ 15) ∧ (s.left = 2 → s.number ≤ 255) ∧ (s.left = 1 → s.number ≤ 4095) ∧ (0 < s.high → (s.left = 2 → 220 ≤ s.number ∧ s.number ≤ 223) ∧ (s.left = 1 → 3520 ≤ s.number ∧ s.number ≤ 3583))
def InH (s : St) : Prop := s.high = 0 ∨ (55296 ≤ s.high ∧ s.high ≤ 56319)
def InS (s : St) : Prop := (s.mode = 0 ∨ s.mode = 1 ∨ s.mode = 2 ∨ s.mode = 3 ∨ s.mode = 4 ∨ s.mode = 5 ∨ s.mode = 6 ∨ s.mode = 7) ∧ InH s ∧ (s.mode = 3 → InD s) ∧ (s.mode = 6 → 1 ≤ s.left ∧ s.left ≤ 3)
/-- one byte more -/
def stepF (s : St) (c : Nat) : St × Bool :=
  if s.mode = 0 then ({ s with mode := 1 }, decide (c = 34))
  else if s.mode = 1 then inside s c
  else if s.mode = 2 then strokeStep s c
  else if s.mode = 3 then digitsStep s c
  else if s.mode = 4 then ({ s with mode := 5 }, decide (c = 92))
  else if s.mode = 5 then ({ s with mode := 3, left := 4, number := 0 }, decide (c = 117))
  else if s.mode = 6 then bytesStep s c
  else (s, false)
theorem encN_len' (n : Nat) : (encN n).length ≤ 4 := (encN_len n).2
theorem inside_ok (s : St) (c : Nat) (hm : s.mode = 1) (hi : InH s) : InS (inside s c).1 ∧ (inside s c).1.text.length ≤ s.text.length + 4 := by
  unfold inside
  repeat' split
  all_goals (refine ⟨⟨?_, ?_, ?_, ?_⟩, ?_⟩ <;> simp_all [InH, InD])
  all_goals omega
theorem stroke_ok (s : St) (c : Nat) (hm : s.mode = 2) (hi : InH s) : InS (strokeStep s c).1 ∧ (strokeStep s c).1.text.length ≤ s.text.length + 4 := by
  unfold strokeStep
  split
  all_goals (refine ⟨⟨?_, ?_, ?_, ?_⟩, ?_⟩ <;> simp_all [InH, InD])
theorem bytes_ok (s : St) (c : Nat) (hm : s.mode = 6) (hi : InH s) (h6 : 1 ≤ s.left ∧ s.left ≤ 3) : InS (bytesStep s c).1 ∧ (bytesStep s c).1.text.length ≤ s.text.length + 4 := by
  unfold bytesStep
  split
  · exact ⟨⟨.inr (.inr (.inr (.inr (.inr (.inr (.inl hm)))))), hi, fun k => absurd (hm.symm.trans k) (by decide), fun _ => h6⟩, Nat.le_add_right _ _⟩
  · by_cases hL : s.left - 1 = 0
    · rw [if_pos hL]
      exact ⟨⟨.inr (.inl rfl), hi, fun k => absurd (show (1 : Int) = 3 from k) (by decide), fun k => absurd (show (1 : Int) = 6 from k) (by decide)⟩, by simp⟩
    · rw [if_neg hL]
      refine ⟨⟨by simp [hm], hi, fun k => ?_, fun k => ?_⟩, by simp⟩
      · exact absurd (hm.symm.trans k) (by decide)
      · show 1 ≤ s.left - 1 ∧ s.left - 1 ≤ 3
        omega
theorem digits_ok (s : St) (c : Nat) (hm : s.mode = 3) (hh : InH s) (hi : InD s) (hok : (digitsStep s c).2 = true) : InS (digitsStep s c).1 ∧ (digitsStep s c).1.text.length ≤ s.text.length + 4 := by
  have hr := (digZ_range c).2
  have hi0 := hi
  obtain ⟨i1, i2, i3, i4, i5, i6, i7, i8⟩ := hi
  have hM : s.mode = 0 ∨ s.mode = 1 ∨ s.mode = 2 ∨ s.mode = 3 ∨ s.mode = 4 ∨ s.mode = 5 ∨ s.mode = 6 ∨ s.mode = 7 := by omega
  have h36 : s.mode ≠ 6 := by omega
  revert hok
  unfold digitsStep
  generalize digZ c = d at *
  split
  · intro k; cases k
  rename_i hd
  split
  · rename_i h4
    intro k
    refine ⟨⟨hM, hh, fun _ => ?_, fun k => absurd k h36⟩, by show s.text.length ≤ _; omega⟩
    have := i4 h4
    refine ⟨?_, ?_, ?_, ?_, ?_, ?_, ?_, ?_⟩ <;> simp only [] <;> omega
  split
  · rename_i h3
    intro k
    have k := of_decide_eq_true k
    refine ⟨⟨hM, hh, fun _ => ?_, fun k => absurd k h36⟩, by show s.text.length ≤ _; omega⟩
    have := i5 h3
    refine ⟨?_, ?_, ?_, ?_, ?_, ?_, ?_, ?_⟩ <;> simp only [] <;> omega
  split
  · rename_i h2
    intro k
    refine ⟨⟨hM, hh, fun _ => ?_, fun k => absurd k h36⟩, by show s.text.length ≤ _; omega⟩
    have := i6 h2
    refine ⟨?_, ?_, ?_, ?_, ?_, ?_, ?_, ?_⟩ <;> simp only [] <;> omega
  split
  · intro _
    refine ⟨⟨.inr (.inl rfl), .inl rfl, fun k => absurd (show (1 : Int) = 3 from k) (by decide), fun k => absurd (show (1 : Int) = 6 from k) (by decide)⟩, ?_⟩
    simp only [List.length_append]
    have := encN_len' (65536 + (s.high - 55296) * 1024 + (16 * s.number + d) - 56320).toNat
    omega
  split
  · rename_i hv
    intro _
    exact ⟨⟨.inr (.inr (.inr (.inr (.inl rfl)))), .inr hv, fun k => absurd (show (4 : Int) = 3 from k) (by decide), fun k => absurd (show (4 : Int) = 6 from k) (by decide)⟩, by show s.text.length ≤ _; omega⟩
  · intro _
    refine ⟨⟨.inr (.inl rfl), hh, fun k => absurd (show (1 : Int) = 3 from k) (by decide), fun k => absurd (show (1 : Int) = 6 from k) (by decide)⟩, ?_⟩
    simp only [List.length_append]
    have := encN_len' (16 * s.number + d).toNat
    omega
theorem step_ok (s : St) (c : Nat) (hi : InS s) (hok : (stepF s c).2 = true) : InS (stepF s c).1 ∧ (stepF s c).1.text.length ≤ s.text.length + 4 := by
  obtain ⟨hm, hh, h3, h6⟩ := hi
  revert hok
  unfold stepF
  rcases hm with m | m | m | m | m | m | m | m
  · rw [if_pos m]; intro _
    exact ⟨⟨.inr (.inl rfl), hh, fun k => absurd (show (1 : Int) = 3 from k) (by decide), fun k => absurd (show (1 : Int) = 6 from k) (by decide)⟩, by show s.text.length ≤ _; omega⟩
  · rw [if_neg (by omega), if_pos m]; intro _; exact inside_ok s c m hh
  · rw [if_neg (by omega), if_neg (by omega), if_pos m]; intro _; exact stroke_ok s c m hh
  · rw [if_neg (by omega), if_neg (by omega), if_neg (by omega), if_pos m]; exact digits_ok s c m hh (h3 m)
  · rw [if_neg (by omega), if_neg (by omega), if_neg (by omega), if_neg (by omega), if_pos m]; intro _
    exact ⟨⟨.inr (.inr (.inr (.inr (.inr (.inl rfl))))), hh, fun k => absurd (show (5 : Int) = 3 from k) (by decide), fun k => absurd (show (5 : Int) = 6 from k) (by decide)⟩, by show s.text.length ≤ _; omega⟩
  · rw [if_neg (by omega), if_neg (by omega), if_neg (by omega), if_neg (by omega), if_neg (by omega), if_pos m]; intro _
    refine ⟨⟨.inr (.inr (.inr (.inl rfl))), hh, fun _ => ⟨(show (1 : Int) ≤ 4 from by decide), (show (4 : Int) ≤ 4 from by decide), (show (0 : Int) ≤ 0 from by decide), fun _ => rfl, fun k => absurd (show (4 : Int) = 3 from k) (by decide), fun k => absurd (show (4 : Int) = 2 from k) (by decide), fun k => absurd (show (4 : Int) = 1 from k) (by decide), fun _ => ⟨fun k => absurd (show (4 : Int) = 2 from k) (by decide), fun k => absurd (show (4 : Int) = 1 from k) (by decide)⟩⟩, fun k => absurd (show (3 : Int) = 6 from k) (by decide)⟩, by show s.text.length ≤ _; omega⟩
  · rw [if_neg (by omega), if_neg (by omega), if_neg (by omega), if_neg (by omega), if_neg (by omega), if_neg (by omega), if_pos m]; intro _; exact bytes_ok s c m hh (h6 m)
  · rw [if_neg (by omega), if_neg (by omega), if_neg (by omega), if_neg (by omega), if_neg (by omega), if_neg (by omega), if_neg (by omega)]; intro k; cases k
end
section
open Go.RowKit
def isTextB (s : ByteArray) : Bool := runB (bt s) s.size 0 0 0 0
theorem isText_bad (s : ByteArray) : isTextB s = decide (badAt s = s.size) := by
  have h := run_bad (bt s) s.size (bt_outs s) s.size 0 0 0 (Nat.zero_le _) (by omega)
  rw [Nat.sub_zero] at h
  exact h
def St0 : St := { mode := 1, left := 0, number := 0, high := 0, low := 0, most := 0, text := [] }
theorem inside_plain (st : St) (c : Nat) (h : c < 128) (h1 : c ≠ 34) (h2 : c ≠ 92) (h3 : 32 ≤ c) : inside st c = ({ st with text := st.text ++ [c] }, true) := by
  unfold inside
  rw [if_neg h1, if_neg h2, if_neg (by omega), if_pos h]
theorem inside_no (st : St) (c : Nat) (h : 128 ≤ c) (h' : c < 194 ∨ 244 < c) : inside st c = (st, false) := by
  unfold inside
  rw [if_neg (by omega), if_neg (by omega), if_pos (by omega)]
theorem inside_many (st : St) (c : Nat) (h : 194 ≤ c) (h' : c ≤ 244) : inside st c = ({ st with text := st.text ++ [c], mode := 6, low := loB c, most := hiB c, left := (moreB c : Nat) }, true) := by
  unfold inside moreB
  rw [if_neg (by omega), if_neg (by omega), if_neg (by omega), if_neg (by omega)]
  by_cases h1 : 240 ≤ c
  · rw [if_pos h1, if_pos h1]; rfl
  · rw [if_neg h1, if_neg h1]
    by_cases h2 : 224 ≤ c
    · rw [if_pos h2, if_pos h2]; rfl
    · rw [if_neg h2, if_neg h2]; rfl
theorem more_pos (c : Nat) : 1 ≤ moreB c ∧ moreB c ≤ 3 := by unfold moreB; split <;> (try split) <;> omega
end
section
open Go.RowKit
def hexd (n : Nat) : Nat := if n < 10 then 48 + n else 87 + n
/-- a byte as a literal has it -/
def escB (c : Nat) : List Nat :=
  if c = 34 then [92, 34] else if c = 92 then [92, 92] else if c = 8 then [92, 98] else if c = 9 then [92, 116] else if c = 10 then [92, 110]
  else if c = 12 then [92, 102] else if c = 13 then [92, 114] else if c < 32 then [92, 117, 48, 48, 48 + c / 16, hexd (c % 16)] else [c]
theorem escB_le (c : Nat) : (escB c).length ≤ 6 := by
  unfold escB
  repeat' split
  all_goals simp
/-- the literal of the first k bytes, but for the last quote -/
def outB (s : ByteArray) (k : Nat) : List Nat := 34 :: (List.range k).flatMap fun i => escB (bt s i)
theorem outB_zero (s : ByteArray) : outB s 0 = [34] := rfl
theorem outB_succ (s : ByteArray) (k : Nat) : outB s (k + 1) = outB s k ++ escB (bt s k) := by simp [outB, List.range_succ]
theorem outB_len (s : ByteArray) (k : Nat) : (outB s k).length ≤ 6 * k + 1 := by
  induction k with
  | zero => exact Nat.le_refl _
  | succ k ih => rw [outB_succ, List.length_append]; have := escB_le (bt s k); omega
/-- bytes as a string -/
def strOf (xs : List Nat) : ByteArray := ⟨(xs.map UInt8.ofNat).toArray⟩
def litB (s : ByteArray) : ByteArray := strOf (outB s s.size ++ [34])
theorem outB_lt (s : ByteArray) (k : Nat) (h : k ≤ s.size) : ∀ x ∈ outB s k, x < 256 := by
  induction k with
  | zero => intro x hx; simp [outB] at hx; omega
  | succ k ih =>
    intro x hx
    rw [outB_succ, List.mem_append] at hx
    rcases hx with hx | hx
    · exact ih (by omega) x hx
    · have hc := bt_lt (s := s) (i := k) (by omega)
      generalize bt s k = c at *
      unfold escB at hx
      have h16 : hexd (c % 16) < 256 := by unfold hexd; split <;> omega
      repeat' split at hx
      all_goals simp at hx
      all_goals omega
/-- a row of bytes as a string -/
theorem row_string {w : World} {base n : Nat} {e : TypeId} {A : Option Addr} {c : Nat} {xs : List Nat} (hx : ∀ x ∈ xs, x < 256) (hn : xs.length = n) (h : w.ownsRow base e 1 (.slice A n c) n (vals .u8 xs)) (h0 : 0 < n) :
    (convert 35 9 (.slice A n c)).run Tryd.prog w = .ok (.string (strOf xs)) w := by
  subst hn
  rcases h.2 with ⟨h1, h2⟩ | ⟨g, cap, cur, he, h1, h2, h3, _, h5, h6⟩
  · omega
  · obtain ⟨rfl, -, rfl⟩ := Value.slice.inj he
    have := run_convert_bytes_back (P := Tryd.prog) w 35 9 5 ⟨g, 0, none⟩ c (xs.map UInt8.ofNat) Tryd.underlying35 Tryd.underlying5 Tryd.underlying9 (by
      intro j hj
      rw [List.length_map] at hj
      have hu := vals_get .u8 xs j hj
      rw [← h6, List.getElem?_take_of_lt (by omega)] at hu
      have hc : w.cell? ((⟨g, 0, none⟩ : Addr).add j) = cur[j]? := by
        have : (⟨g, 0, none⟩ : Addr).add j = ⟨g, j, none⟩ := by
          unfold Addr.add
          by_cases q : j = 0
          · subst q; rfl
          · simp [q]
        rw [this]; exact cell_of_row w g j cur e (0, 0) h2
      rw [hc, ← Array.getElem?_toList, hu]
      have hl : xs[j] < 256 := hx _ (List.getElem_mem hj)
      simp [hj]
      omega)
    rw [List.length_map] at this
    exact this
def QRel (w1 : World) (s : ByteArray) (v4 v5 : Value) (wr : World) : Prop :=
  ∃ k : Nat, k ≤ s.size ∧ v5 = .int .i64 k ∧ wr.ownsRow w1.heap.size 5 1 v4 (outB s k).length (vals .u8 (outB s k)) ∧ Below w1.heap.size w1 wr
def QuoteR (s : ByteArray) : ByteArray × Bool := if isTextB s = true then (litB s, true) else (⟨#[]⟩, false)
theorem hex_0 (w : World) : (Instr.index 9 (.string ⟨#[48, 49, 50, 51, 52, 53, 54, 55, 56, 57, 97, 98, 99, 100, 101, 102]⟩) (.int .u8 0)).run Tryd.prog w = .ok (.int .u8 48) w := by kernel_rfl
theorem hex_1 (w : World) : (Instr.index 9 (.string ⟨#[48, 49, 50, 51, 52, 53, 54, 55, 56, 57, 97, 98, 99, 100, 101, 102]⟩) (.int .u8 1)).run Tryd.prog w = .ok (.int .u8 49) w := by kernel_rfl
theorem hex_2 (w : World) : (Instr.index 9 (.string ⟨#[48, 49, 50, 51, 52, 53, 54, 55, 56, 57, 97, 98, 99, 100, 101, 102]⟩) (.int .u8 2)).run Tryd.prog w = .ok (.int .u8 50) w := by kernel_rfl
theorem hex_3 (w : World) : (Instr.index 9 (.string ⟨#[48, 49, 50, 51, 52, 53, 54, 55, 56, 57, 97, 98, 99, 100, 101, 102]⟩) (.int .u8 3)).run Tryd.prog w = .ok (.int .u8 51) w := by kernel_rfl
theorem hex_4 (w : World) : (Instr.index 9 (.string ⟨#[48, 49, 50, 51, 52, 53, 54, 55, 56, 57, 97, 98, 99, 100, 101, 102]⟩) (.int .u8 4)).run Tryd.prog w = .ok (.int .u8 52) w := by kernel_rfl
theorem hex_5 (w : World) : (Instr.index 9 (.string ⟨#[48, 49, 50, 51, 52, 53, 54, 55, 56, 57, 97, 98, 99, 100, 101, 102]⟩) (.int .u8 5)).run Tryd.prog w = .ok (.int .u8 53) w := by kernel_rfl
theorem hex_6 (w : World) : (Instr.index 9 (.string ⟨#[48, 49, 50, 51, 52, 53, 54, 55, 56, 57, 97, 98, 99, 100, 101, 102]⟩) (.int .u8 6)).run Tryd.prog w = .ok (.int .u8 54) w := by kernel_rfl
theorem hex_7 (w : World) : (Instr.index 9 (.string ⟨#[48, 49, 50, 51, 52, 53, 54, 55, 56, 57, 97, 98, 99, 100, 101, 102]⟩) (.int .u8 7)).run Tryd.prog w = .ok (.int .u8 55) w := by kernel_rfl
theorem hex_8 (w : World) : (Instr.index 9 (.string ⟨#[48, 49, 50, 51, 52, 53, 54, 55, 56, 57, 97, 98, 99, 100, 101, 102]⟩) (.int .u8 8)).run Tryd.prog w = .ok (.int .u8 56) w := by kernel_rfl
theorem hex_9 (w : World) : (Instr.index 9 (.string ⟨#[48, 49, 50, 51, 52, 53, 54, 55, 56, 57, 97, 98, 99, 100, 101, 102]⟩) (.int .u8 9)).run Tryd.prog w = .ok (.int .u8 57) w := by kernel_rfl
theorem hex_10 (w : World) : (Instr.index 9 (.string ⟨#[48, 49, 50, 51, 52, 53, 54, 55, 56, 57, 97, 98, 99, 100, 101, 102]⟩) (.int .u8 10)).run Tryd.prog w = .ok (.int .u8 97) w := by kernel_rfl
theorem hex_11 (w : World) : (Instr.index 9 (.string ⟨#[48, 49, 50, 51, 52, 53, 54, 55, 56, 57, 97, 98, 99, 100, 101, 102]⟩) (.int .u8 11)).run Tryd.prog w = .ok (.int .u8 98) w := by kernel_rfl
theorem hex_12 (w : World) : (Instr.index 9 (.string ⟨#[48, 49, 50, 51, 52, 53, 54, 55, 56, 57, 97, 98, 99, 100, 101, 102]⟩) (.int .u8 12)).run Tryd.prog w = .ok (.int .u8 99) w := by kernel_rfl
theorem hex_13 (w : World) : (Instr.index 9 (.string ⟨#[48, 49, 50, 51, 52, 53, 54, 55, 56, 57, 97, 98, 99, 100, 101, 102]⟩) (.int .u8 13)).run Tryd.prog w = .ok (.int .u8 100) w := by kernel_rfl
theorem hex_14 (w : World) : (Instr.index 9 (.string ⟨#[48, 49, 50, 51, 52, 53, 54, 55, 56, 57, 97, 98, 99, 100, 101, 102]⟩) (.int .u8 14)).run Tryd.prog w = .ok (.int .u8 101) w := by kernel_rfl
theorem hex_15 (w : World) : (Instr.index 9 (.string ⟨#[48, 49, 50, 51, 52, 53, 54, 55, 56, 57, 97, 98, 99, 100, 101, 102]⟩) (.int .u8 15)).run Tryd.prog w = .ok (.int .u8 102) w := by kernel_rfl
theorem hex_at (n : Nat) (h : n < 16) (w : World) : (Instr.index 9 (.string ⟨#[48, 49, 50, 51, 52, 53, 54, 55, 56, 57, 97, 98, 99, 100, 101, 102]⟩) (.int .u8 n)).run Tryd.prog w = .ok (.int .u8 (hexd n)) w := by
  have : n = 0 ∨ n = 1 ∨ n = 2 ∨ n = 3 ∨ n = 4 ∨ n = 5 ∨ n = 6 ∨ n = 7 ∨ n = 8 ∨ n = 9 ∨ n = 10 ∨ n = 11 ∨ n = 12 ∨ n = 13 ∨ n = 14 ∨ n = 15 := by omega
  rcases this with rfl | rfl | rfl | rfl | rfl | rfl | rfl | rfl | rfl | rfl | rfl | rfl | rfl | rfl | rfl | rfl
  · exact hex_0 w
  · exact hex_1 w
  · exact hex_2 w
  · exact hex_3 w
  · exact hex_4 w
  · exact hex_5 w
  · exact hex_6 w
  · exact hex_7 w
  · exact hex_8 w
  · exact hex_9 w
  · exact hex_10 w
  · exact hex_11 w
  · exact hex_12 w
  · exact hex_13 w
  · exact hex_14 w
  · exact hex_15 w
end
section
open Go.RowKit
def scanG (b : Nat → Nat) : Nat → Nat → St → Except Nat (List Nat × Nat)
  | 0, i, _ => .error i
  | f + 1, i, s => if (stepF s (b i)).2 = false then .error i else if (stepF s (b i)).1.mode = 7 then .ok ((stepF s (b i)).1.text, i + 1) else scanG b f (i + 1) (stepF s (b i)).1
def StZ : St := { mode := 0, left := 0, number := 0, high := 0, low := 0, most := 0, text := [] }
def scanAt (s : ByteArray) (a : Nat) : Except Nat (List Nat × Nat) := scanG (bt s) (s.size - a) a StZ
def faultV (code a : Int) : Value := .agg #[.int .i64 code, .int .i64 a, .string ⟨#[]⟩]
def rscanV : Except Nat (List Nat × Nat) → Value
  | .error i => .tuple #[.string ⟨#[]⟩, .int .i64 0, faultV 3 i]
  | .ok (t, n) => .tuple #[.string (strOf t), .int .i64 n, faultV 0 0]
theorem InS_Z : InS StZ := ⟨.inl rfl, .inl rfl, fun k => absurd k (by decide), fun k => absurd k (by decide)⟩
def ByteL (l : List Nat) : Prop := ∀ x ∈ l, x < 256
theorem ByteL.app {l m : List Nat} (h : ByteL l) (h' : ByteL m) : ByteL (l ++ m) := by
  intro x hx
  rcases List.mem_append.1 hx with hx | hx
  · exact h x hx
  · exact h' x hx
theorem ByteL.one {c : Nat} (h : c < 256) : ByteL [c] := by intro x hx; simp at hx; omega
theorem encN_byte (n : Nat) (h : n < 1114112) : ByteL (encN n) := by
  intro x hx
  unfold encN at hx
  split at hx
  · simp at hx; omega
  split at hx
  · simp at hx; omega
  split at hx
  · simp at hx; omega
  · simp at hx; omega
theorem letM_lt (c m : Nat) (h : letM c = some m) : m < 256 := by
  unfold letM at h
  repeat' split at h
  all_goals (cases h; try decide)
theorem step_byte (s : St) (c : Nat) (hc : c < 256) (hi : InS s) (hb : ByteL s.text) : ByteL (stepF s c).1.text := by
  obtain ⟨hm, hh, h3, h6⟩ := hi
  have hr := (digZ_range c).2
  unfold stepF
  rcases hm with m | m | m | m | m | m | m | m
  · rw [if_pos m]; exact hb
  · rw [if_neg (by omega), if_pos m]; unfold inside; repeat' split
    all_goals first | exact hb | exact hb.app (.one hc)
  · rw [if_neg (by omega), if_neg (by omega), if_pos m]; unfold strokeStep; split
    · rename_i h; exact hb.app (.one (letM_lt c _ h))
    · exact hb
  · rw [if_neg (by omega), if_neg (by omega), if_neg (by omega), if_pos m]
    obtain ⟨i1, i2, i3, i4, i5, i6, i7, i8⟩ := h3 m
    unfold digitsStep
    generalize digZ c = d at *
    split
    · exact hb
    rename_i hd
    split
    · exact hb
    rename_i h4
    split
    · exact hb
    rename_i h3'
    split
    · exact hb
    rename_i h2
    have := i7 (by omega)
    split
    · rename_i hp
      have := (i8 hp).2 (by omega)
      exact hb.app (encN_byte _ (by unfold InH at hh; omega))
    split
    · exact hb
    · exact hb.app (encN_byte _ (by omega))
  · rw [if_neg (by omega), if_neg (by omega), if_neg (by omega), if_neg (by omega), if_pos m]; exact hb
  · rw [if_neg (by omega), if_neg (by omega), if_neg (by omega), if_neg (by omega), if_neg (by omega), if_pos m]; exact hb
  · rw [if_neg (by omega), if_neg (by omega), if_neg (by omega), if_neg (by omega), if_neg (by omega), if_neg (by omega), if_pos m]; unfold bytesStep; split
    · exact hb
    · exact hb.app (.one hc)
  · rw [if_neg (by omega), if_neg (by omega), if_neg (by omega), if_neg (by omega), if_neg (by omega), if_neg (by omega), if_neg (by omega)]; exact hb
/-- so many bytes of a piece stood already that said nothing yet -/
def pend (s : St) : Int := if s.mode = 2 then 1 else if s.mode = 3 then 6 - s.left else if s.mode = 4 then 6 else if s.mode = 5 then 7 else 0
theorem pend_0 {s : St} (h : s.mode = 0 ∨ s.mode = 1 ∨ s.mode = 6 ∨ s.mode = 7) : pend s = 0 := by
  unfold pend
  rw [if_neg (by omega), if_neg (by omega), if_neg (by omega), if_neg (by omega)]
theorem step_pend (s : St) (c : Nat) (hi : InS s) (hok : (stepF s c).2 = true) : ((stepF s c).1.text.length : Int) + pend (stepF s c).1 ≤ (s.text.length : Int) + pend s + 1 := by
  obtain ⟨hm, hh, h3, h6⟩ := hi
  revert hok
  unfold stepF
  rcases hm with m | m | m | m | m | m | m | m
  · rw [if_pos m]; intro _
    rw [pend_0 (s := s) (by omega), pend_0 (s := ({ s with mode := 1 }, decide (c = 34)).1) (.inr (.inl rfl))]
    show (s.text.length : Int) + 0 ≤ _; omega
  · rw [if_neg (by omega), if_pos m, pend_0 (s := s) (by omega)]
    unfold inside
    by_cases q1 : c = 34
    · rw [if_pos q1]; intro _; rw [pend_0 (.inr (.inr (.inr rfl)))]; show (s.text.length : Int) + 0 ≤ _; omega
    rw [if_neg q1]
    by_cases q2 : c = 92
    · rw [if_pos q2]; intro _; show (s.text.length : Int) + 1 ≤ _; omega
    rw [if_neg q2]
    by_cases q3 : c < 32 ∨ (127 < c ∧ c < 194) ∨ 244 < c
    · rw [if_pos q3]; intro k; cases k
    rw [if_neg q3]
    by_cases q4 : c < 128
    · rw [if_pos q4]; intro _; have e := pend_0 (s := { s with text := s.text ++ [c] }) (.inr (.inl m)); show ((s.text ++ [c]).length : Int) + pend { s with text := s.text ++ [c] } ≤ _; rw [e, List.length_append]; show (((s.text.length + 1 : Nat)) : Int) + 0 ≤ _; omega
    rw [if_neg q4]; intro _; rw [pend_0 (.inr (.inr (.inl rfl)))]; show ((s.text ++ [c]).length : Int) + 0 ≤ _; rw [List.length_append]; show (((s.text.length + 1 : Nat)) : Int) + 0 ≤ _; omega
  · rw [if_neg (by omega), if_neg (by omega), if_pos m]
    have hp : pend s = 1 := if_pos m
    rw [hp]
    unfold strokeStep
    split
    · rename_i x hx
      intro _; rw [pend_0 (.inr (.inl rfl))]; show ((s.text ++ [x]).length : Int) + 0 ≤ _; rw [List.length_append]; show (((s.text.length + 1 : Nat)) : Int) + 0 ≤ _; omega
    · intro _; show (s.text.length : Int) + (6 - 4) ≤ _; omega
  · rw [if_neg (by omega), if_neg (by omega), if_neg (by omega), if_pos m]
    have hp : pend s = 6 - s.left := by unfold pend; rw [if_neg (by omega), if_pos m]
    obtain ⟨i1, i2, -⟩ := h3 m
    unfold digitsStep
    by_cases q0 : digZ c < 0
    · rw [if_pos q0]; intro k; cases k
    rw [if_neg q0, hp]
    have hP : ∀ (st : St), st.mode = 3 → pend st = 6 - st.left := fun st h => by unfold pend; rw [if_neg (by omega), if_pos h]
    by_cases q4 : s.left = 4
    · rw [if_pos q4]; intro _; have e := hP { s with number := 16 * s.number + digZ c, left := 3 } m; show (s.text.length : Int) + pend { s with number := 16 * s.number + digZ c, left := 3 } ≤ _; rw [e]; show (s.text.length : Int) + (6 - 3) ≤ _; omega
    rw [if_neg q4]
    by_cases q3 : s.left = 3
    · rw [if_pos q3]; intro _; have e := hP { s with number := 16 * s.number + digZ c, left := 2 } m; show (s.text.length : Int) + pend { s with number := 16 * s.number + digZ c, left := 2 } ≤ _; rw [e]; show (s.text.length : Int) + (6 - 2) ≤ _; omega
    rw [if_neg q3]
    by_cases q2 : s.left = 2
    · rw [if_pos q2]; intro _; have e := hP { s with number := 16 * s.number + digZ c, left := 1 } m; show (s.text.length : Int) + pend { s with number := 16 * s.number + digZ c, left := 1 } ≤ _; rw [e]; show (s.text.length : Int) + (6 - 1) ≤ _; omega
    rw [if_neg q2]
    by_cases qh : 0 < s.high
    · rw [if_pos qh]; intro _
      have hl := encN_len' (65536 + (s.high - 55296) * 1024 + (16 * s.number + digZ c) - 56320).toNat
      rw [pend_0 (.inr (.inl rfl))]
      generalize (65536 + (s.high - 55296) * 1024 + (16 * s.number + digZ c) - 56320).toNat = z at *
      show ((s.text ++ encN z).length : Int) + 0 ≤ _
      rw [List.length_append]; omega
    rw [if_neg qh]
    by_cases qv : 55296 ≤ 16 * s.number + digZ c ∧ 16 * s.number + digZ c ≤ 56319
    · rw [if_pos qv]; intro _; show (s.text.length : Int) + 6 ≤ _; omega
    · rw [if_neg qv]; intro _
      have hl := encN_len' (16 * s.number + digZ c).toNat
      rw [pend_0 (.inr (.inl rfl))]
      generalize (16 * s.number + digZ c).toNat = z at *
      show ((s.text ++ encN z).length : Int) + 0 ≤ _
      rw [List.length_append]; omega
  · rw [if_neg (by omega), if_neg (by omega), if_neg (by omega), if_neg (by omega), if_pos m]
    have hp : pend s = 6 := by unfold pend; rw [if_neg (by omega), if_neg (by omega), if_pos m]
    rw [hp]; intro _; show (s.text.length : Int) + 7 ≤ _; omega
  · rw [if_neg (by omega), if_neg (by omega), if_neg (by omega), if_neg (by omega), if_neg (by omega), if_pos m]
    have hp : pend s = 7 := by unfold pend; rw [if_neg (by omega), if_neg (by omega), if_neg (by omega), if_pos m]
    rw [hp]; intro _; show (s.text.length : Int) + (6 - 4) ≤ _; omega
  · rw [if_neg (by omega), if_neg (by omega), if_neg (by omega), if_neg (by omega), if_neg (by omega), if_neg (by omega), if_pos m, pend_0 (s := s) (by omega)]
    unfold bytesStep
    by_cases q : c < s.low ∨ s.most < c
    · rw [if_pos q]; intro k; cases k
    rw [if_neg q]; intro _
    rw [pend_0 (by
      by_cases hl : s.left - 1 = 0
      · exact .inr (.inl (if_pos hl))
      · exact .inr (.inr (.inl ((if_neg hl).trans m))))]
    show ((s.text ++ [c]).length : Int) + 0 ≤ _; rw [List.length_append]; show (((s.text.length + 1 : Nat)) : Int) + 0 ≤ _; omega
  · rw [if_neg (by omega), if_neg (by omega), if_neg (by omega), if_neg (by omega), if_neg (by omega), if_neg (by omega), if_neg (by omega)]; intro k; cases k
theorem pend_ge (s : St) (hi : InS s) : 0 ≤ pend s := by
  obtain ⟨hm, hh, h3, h6⟩ := hi
  unfold pend
  by_cases q2 : s.mode = 2
  · rw [if_pos q2]; decide
  rw [if_neg q2]
  by_cases q3 : s.mode = 3
  · rw [if_pos q3]; have := (h3 q3).2.1; omega
  rw [if_neg q3]
  split
  · decide
  split <;> decide
/-- a row of bytes, as a string, empty or not -/
theorem row_string_any {w : World} {base n : Nat} {e : TypeId} {A : Option Addr} {c : Nat} {xs : List Nat} (hx : ∀ x ∈ xs, x < 256) (hn : xs.length = n) (h : w.ownsRow base e 1 (.slice A n c) n (vals .u8 xs)) :
    (convert 35 9 (.slice A n c)).run Tryd.prog w = .ok (.string (strOf xs)) w := by
  by_cases h0 : 0 < n
  · exact row_string hx hn h h0
  obtain rfl : n = 0 := by omega
  obtain rfl : xs = [] := List.length_eq_zero_iff.1 hn
  rcases h.2 with ⟨h1, h2⟩ | ⟨g, cap, cur, he, h1, h2, h3, _, h5, h6⟩
  · cases h1
    kernel_rfl
  · obtain ⟨rfl, -, rfl⟩ := Value.slice.inj he
    exact run_convert_bytes_back (P := Tryd.prog) w 35 9 5 ⟨g, 0, none⟩ c [] Tryd.underlying35 Tryd.underlying5 Tryd.underlying9 (by intro j hj; simp at hj)
theorem results_ttc {P : Program} {fn : Func} {t u p : Tmp} {ty : TypeId} (h : fn.results = #[.tmp t, .tmp u, .cell p ty]) (tmps : Array Value) (w : World) (g : Nat) (t' : TypeId) (cs : Array Value) (fr : Nat × Nat) (d : TypeDesc)
    (hp : tmps.getD p undef = .pointer (some ⟨g, 0, none⟩)) (hg : w.heap[g]? = some (.cells cs t' fr))
    (hu : P.underlying ty = some d) (hd : (match d with | .struct _ | .array _ _ => true | _ => false) = true) (hi : (P.info? ty).map (·.size) = some cs.size) :
    (results fn tmps).run P w = .ok (.tuple #[tmps.getD t undef, tmps.getD u undef, .agg cs]) w := by
  have hp' : tmps[p]?.getD undef = .pointer (some ⟨g, 0, none⟩) := by simpa using hp
  simp [results, h, hp', asAddr, run_loadVar_row w g t' ty cs fr d hg hu hd hi]
theorem results_tc {P : Program} {fn : Func} {t p : Tmp} {ty : TypeId} (h : fn.results = #[.tmp t, .cell p ty]) (tmps : Array Value) (w : World) (g : Nat) (t' : TypeId) (cs : Array Value) (fr : Nat × Nat) (d : TypeDesc)
    (hp : tmps.getD p undef = .pointer (some ⟨g, 0, none⟩)) (hg : w.heap[g]? = some (.cells cs t' fr))
    (hu : P.underlying ty = some d) (hd : (match d with | .struct _ | .array _ _ => true | _ => false) = true) (hi : (P.info? ty).map (·.size) = some cs.size) :
    (results fn tmps).run P w = .ok (.tuple #[tmps.getD t undef, .agg cs]) w := by
  have hp' : tmps[p]?.getD undef = .pointer (some ⟨g, 0, none⟩) := by simpa using hp
  simp [results, h, hp', asAddr, run_loadVar_row w g t' ty cs fr d hg hu hd hi]
/-- what a result cell of three fields becomes by a store of a whole -/
theorem fault_set {w : World} {g : Nat} {cs : Array Value} (h : Blk w g 39 cs) (hcs : cs.size = 3) (x y z : Value) :
    Blk (((w.setCell ⟨g, 0, none⟩ x).setCell ⟨g, 1, none⟩ y).setCell ⟨g, 2, none⟩ z) g 39 #[x, y, z] := by
  have := ((h.set_ 0 x).set_ 1 y).set_ 2 z
  obtain ⟨l⟩ := cs
  match l, hcs with
  | [a, b, c], _ => exact this
theorem fault_below {a w : World} {g : Nat} (h : Below g a w) (x y z : Value) : Below g a (((w.setCell ⟨g, 0, none⟩ x).setCell ⟨g, 1, none⟩ y).setCell ⟨g, 2, none⟩ z) :=
  ((h.setCell (p := ⟨g, 0, none⟩) (Nat.le_refl _) _).setCell (p := ⟨g, 1, none⟩) (Nat.le_refl _) _).setCell (p := ⟨g, 2, none⟩) (Nat.le_refl _) _
end
end Go.Proofs.YtjfeebbhkolmoaaDoor.E
