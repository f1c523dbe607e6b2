/- One byte more, in whatever state: the plain step, its contract, what a Scanner always is. -/
import Derived.Test.YtjfeebbhkolmoaaDoorJs7
import Derived.Shelf.Abstract
namespace Go.Proofs.YtjfeebbhkolmoaaDoor
open Go.RowKit
set_option linter.unusedVariables false

def pstep (s : Sc) (c : Nat) : Sc × Nat :=
  if s.k = jValue then pValue s c else if s.k = jFirstItem then pFirstItem s c else if s.k = jFirstKey then pFirstKey s c
  else if s.k = jKeys then pKeys s c else if s.k = jColon then pColon s c else if s.k = jAfter then pAfter s c
  else if s.k = jWord then pWord s c else if s.k = jMinus then pMinus s c else if s.k = jZero then pZero s c
  else if s.k = jDigits then pDigits s c else if s.k = jPoint then pPoint s c else if s.k = jBehind then pBehind s c
  else if s.k = jSign then pSign s c else if s.k = jPower then pPower s c else if s.k = jPowers then pPowers s c
  else if s.k = jText then pText s c else if s.k = jFollow then pFollow s c else if s.k = jStroke then pStroke s c
  else if s.k = jHex then pHex s c else if s.k = jSecond then pSecond s c else pLetter s c

def jAll : List Nat := [jValue, jFirstItem, jFirstKey, jKeys, jColon, jAfter, jWord, jMinus, jZero, jDigits, jPoint, jBehind, jSign, jPower, jPowers, jText, jFollow, jStroke, jHex, jSecond, jLetter]

/-- what a Scanner always is -/
structure InJ (s : Sc) : Prop where
  op : s.open_.length ≤ 128
  st : s.k ∈ jAll
  wd : s.k = jWord → s.rest.data.toList ≠ []
  fo : s.k = jFollow → 1 ≤ s.left ∧ s.left ≤ 3
  hx : s.k = jHex → 1 ≤ s.left ∧ s.left ≤ 4 ∧ (s.left = 4 → s.unit = 0) ∧ (s.left = 3 → s.unit ≤ 15) ∧ (s.left = 2 → s.unit ≤ 255) ∧ s.unit ≤ 4095

theorem enters_all : ∀ k ∈ jAll, ∀ (args : Array Value) (w : World), (callFunc k args).run Tryd.prog w = .ok (.enter k args) w := by
  intro k hk
  unfold jAll at hk
  simp only [List.mem_cons, List.not_mem_nil, or_false] at hk
  rcases hk with rfl | rfl | rfl | rfl | rfl | rfl | rfl | rfl | rfl | rfl | rfl | rfl | rfl | rfl | rfl | rfl | rfl | rfl | rfl | rfl | rfl
  · exact enters_of Tryd.func28 (by kernel_rfl) rfl
  · exact enters_of Tryd.func45 (by kernel_rfl) rfl
  · exact enters_of Tryd.func46 (by kernel_rfl) rfl
  · exact enters_of Tryd.func68 (by kernel_rfl) rfl
  · exact enters_of Tryd.func69 (by kernel_rfl) rfl
  · exact enters_of Tryd.func67 (by kernel_rfl) rfl
  · exact enters_of Tryd.func52 (by kernel_rfl) rfl
  · exact enters_of Tryd.func48 (by kernel_rfl) rfl
  · exact enters_of Tryd.func49 (by kernel_rfl) rfl
  · exact enters_of Tryd.func51 (by kernel_rfl) rfl
  · exact enters_of Tryd.func72 (by kernel_rfl) rfl
  · exact enters_of Tryd.func85 (by kernel_rfl) rfl
  · exact enters_of Tryd.func86 (by kernel_rfl) rfl
  · exact enters_of Tryd.func95 (by kernel_rfl) rfl
  · exact enters_of Tryd.func101 (by kernel_rfl) rfl
  · exact enters_of Tryd.func47 (by kernel_rfl) rfl
  · exact enters_of Tryd.func71 (by kernel_rfl) rfl
  · exact enters_of Tryd.func70 (by kernel_rfl) rfl
  · exact enters_of Tryd.func94 (by kernel_rfl) rfl
  · exact enters_of Tryd.func100 (by kernel_rfl) rfl
  · exact enters_of Tryd.func102 (by kernel_rfl) rfl

theorem step_any (w : World) (S : Nat → Prop) (g : Nat) (s : Sc) (c : Nat) (hc : c < 256) (hi : InJ s) (hs : ScAt w S g s) :
    Calls Tryd.prog s.k #[.pointer (some ⟨g, 0, none⟩), .int .u8 c] w (ScPost w S g (pstep s c)) := by
  have hk := hi.st
  unfold jAll at hk
  simp only [List.mem_cons, List.not_mem_nil, or_false] at hk
  unfold pstep
  rcases hk with h | h | h | h | h | h | h | h | h | h | h | h | h | h | h | h | h | h | h | h | h
  · rw [h]; exact value_any w S g s c hs hi.op
  · rw [h]; exact firstItem_any w S g s c hs hi.op
  · rw [h]; exact firstKey_any w S g s c hs
  · rw [h]; exact keys_any w S g s c hs
  · rw [h]; exact colon_any w S g s c hs
  · rw [h]; exact after_any w S g s c hs
  · have h2 := hi.wd h
    rw [h]; exact word_any w S g s c hs h2
  · rw [h]; exact minus_any w S g s c hs
  · rw [h]; exact zero_any w S g s c hc hs
  · rw [h]; exact digits_any w S g s c hc hs
  · rw [h]; exact point_any w S g s c hs
  · rw [h]; exact behind_any w S g s c hc hs
  · rw [h]; exact sign_any w S g s c hs
  · rw [h]; exact power_any w S g s c hs
  · rw [h]; exact powers_any w S g s c hc hs
  · rw [h]; exact text_any w S g s c hc hs
  · have h2 := hi.fo h
    rw [h]; exact follow_any w S g s c hs h2.1 h2.2
  · rw [h]; exact stroke_any w S g s c hs
  · have h2 := hi.hx h
    rw [h]; exact hex_any w S g s c hc hs h2.1 h2.2.1 h2.2.2.2.2.2
  · rw [h]; exact second_any w S g s c hs
  · rw [h]; exact letter_any w S g s c hs

theorem in_to (s : Sc) (k : Nat) (d : Bool) (ho : s.open_.length ≤ 128) (hk : k ∈ jAll) (h1 : k ≠ jWord) (h2 : k ≠ jFollow) (h3 : k ≠ jHex) : InJ (sTo s k d) :=
  ⟨ho, hk, fun h => absurd h h1, fun h => absurd h h2, fun h => absurd h h3⟩
theorem in_word (s : Sc) (r : ByteArray) (ho : s.open_.length ≤ 128) (hr : r.data.toList ≠ []) : InJ (sTo (sRest s r) jWord false) :=
  ⟨ho, by show jWord ∈ jAll; decide, fun _ => hr, fun h => absurd (show jWord = jFollow from h) (by decide), fun h => absurd (show jWord = jHex from h) (by decide)⟩
theorem after_in (s : Sc) (c : Nat) (hi : InJ s) (h0 : (pAfter s c).2 = 0) : InJ (pAfter s c).1 := by
  have ho := hi.op
  unfold pAfter at *
  split
  · exact in_to s _ _ ho (by decide) (by decide) (by decide) (by decide)
  split
  · exact hi
  split
  · split
    · exact in_to s _ _ ho (by decide) (by decide) (by decide) (by decide)
    · exact in_to s _ _ ho (by decide) (by decide) (by decide) (by decide)
  split
  · refine in_to _ _ _ ?_ (by decide) (by decide) (by decide) (by decide)
    show s.open_.dropLast.length ≤ 128
    rw [List.length_dropLast]; omega
  · exact hi
theorem value_in (s : Sc) (c : Nat) (hi : InJ s) (h0 : (pValue s c).2 = 0) : InJ (pValue s c).1 := by
  have ho := hi.op
  unfold pValue at *
  split
  · exact hi
  split
  · split
    · exact hi
    · refine in_to _ _ _ ?_ (by decide) (by decide) (by decide) (by decide)
      show (s.open_ ++ [91]).length ≤ 128
      rw [List.length_append]; simp; omega
  split
  · split
    · exact hi
    · refine in_to _ _ _ ?_ (by decide) (by decide) (by decide) (by decide)
      show (s.open_ ++ [123]).length ≤ 128
      rw [List.length_append]; simp; omega
  split
  · exact in_to _ _ _ ho (by decide) (by decide) (by decide) (by decide)
  split
  · exact in_to _ _ _ ho (by decide) (by decide) (by decide) (by decide)
  split
  · exact in_to _ _ _ ho (by decide) (by decide) (by decide) (by decide)
  split
  · exact in_to _ _ _ ho (by decide) (by decide) (by decide) (by decide)
  split
  · exact in_word s _ ho (by decide)
  split
  · exact in_word s _ ho (by decide)
  split
  · exact in_word s _ ho (by decide)
  · exact hi
theorem keys_in (s : Sc) (c : Nat) (hi : InJ s) : InJ (pKeys s c).1 := by
  have ho := hi.op
  unfold pKeys
  repeat' split
  · exact hi
  · exact in_to _ _ _ ho (by decide) (by decide) (by decide) (by decide)
  · exact hi
theorem colon_in (s : Sc) (c : Nat) (hi : InJ s) : InJ (pColon s c).1 := by
  have ho := hi.op
  unfold pColon
  repeat' split
  · exact hi
  · exact in_to _ _ _ ho (by decide) (by decide) (by decide) (by decide)
  · exact hi
theorem fraction_in (s : Sc) (c : Nat) (hi : InJ s) (h0 : (pFraction s c).2 = 0) : InJ (pFraction s c).1 := by
  have ho := hi.op
  unfold pFraction at *
  split
  · exact in_to _ _ _ ho (by decide) (by decide) (by decide) (by decide)
  · rename_i h; rw [if_neg h] at h0; exact after_in s c hi h0
theorem zero_in (s : Sc) (c : Nat) (hi : InJ s) (h0 : (pZero s c).2 = 0) : InJ (pZero s c).1 := by
  have ho := hi.op
  unfold pZero at *
  split
  · exact in_to _ _ _ ho (by decide) (by decide) (by decide) (by decide)
  · rename_i h; rw [if_neg h] at h0; exact fraction_in s c hi h0
theorem power_in (s : Sc) (c : Nat) (hi : InJ s) : InJ (pPower s c).1 := by
  have ho := hi.op
  unfold pPower
  split
  · exact in_to _ _ _ ho (by decide) (by decide) (by decide) (by decide)
  · exact hi
theorem number_in (s : Sc) (p : Bool) (hi : InJ s) : InJ (sNumber s p) :=
  ⟨hi.op, by show jHex ∈ jAll; decide, fun h => absurd (show jHex = jWord from h) (by decide), fun h => absurd (show jHex = jFollow from h) (by decide), fun _ => ⟨by show 1 ≤ 4; decide, by show 4 ≤ 4; decide, fun _ => rfl, fun _ => by show 0 ≤ 15; decide, fun _ => by show 0 ≤ 255; decide, by show 0 ≤ 4095; decide⟩⟩
theorem hexD_le (c : Nat) : hexD c ≤ 16 := by
  unfold hexD
  repeat' split
  all_goals omega
theorem hex_in (s : Sc) (c : Nat) (hi : InJ s) (hk : s.k = jHex) (h0 : (pHex s c).2 = 0) : InJ (pHex s c).1 := by
  have ho := hi.op
  obtain ⟨a1, a2, a3, a4, a5, a6⟩ := hi.hx hk
  have hd := hexD_le c
  unfold pHex at *
  by_cases hx : hexD c = 16
  · rw [if_pos hx]; exact hi
  rw [if_neg hx] at h0 ⊢
  simp only [] at h0 ⊢
  have hin : InJ (sUnit s (s.left - 1) (16 * s.unit + hexD c)) ∨ ¬ 1 < s.left := by
    by_cases h1 : 1 < s.left
    · left
      refine ⟨ho, hi.st, fun h => absurd (hk.symm.trans h) (by decide), fun h => absurd (hk.symm.trans h) (by decide), fun _ => ?_⟩
      show 1 ≤ s.left - 1 ∧ s.left - 1 ≤ 4 ∧ (s.left - 1 = 4 → 16 * s.unit + hexD c = 0) ∧ (s.left - 1 = 3 → 16 * s.unit + hexD c ≤ 15) ∧ (s.left - 1 = 2 → 16 * s.unit + hexD c ≤ 255) ∧ 16 * s.unit + hexD c ≤ 4095
      have hl : s.left = 2 ∨ s.left = 3 ∨ s.left = 4 := by omega
      rcases hl with hl | hl | hl
      · have := a5 hl; omega
      · have := a4 hl; omega
      · have := a3 hl; omega
    · exact .inr h1
  split
  · rename_i h; rw [if_pos h] at h0; exact absurd (show (3 : Nat) = 0 from h0) (by decide)
  · rename_i h; rw [if_neg h] at h0
    split
    · rename_i h'; rw [if_pos h'] at h0; exact absurd (show (3 : Nat) = 0 from h0) (by decide)
    · split
      · rename_i h1
        rcases hin with h2 | h2
        · exact h2
        · exact absurd h1 h2
      · split
        · exact in_to _ _ _ ho (by decide) (by decide) (by decide) (by decide)
        · exact in_to _ _ _ ho (by decide) (by decide) (by decide) (by decide)
/-- a good byte leaves a Scanner what it always is -/
theorem step_in (s : Sc) (c : Nat) (hi : InJ s) (h0 : (pstep s c).2 = 0) : InJ (pstep s c).1 := by
  have ho := hi.op
  have hk := hi.st
  unfold jAll at hk
  simp only [List.mem_cons, List.not_mem_nil, or_false] at hk
  unfold pstep at *
  rcases hk with h | h | h | h | h | h | h | h | h | h | h | h | h | h | h | h | h | h | h | h | h
  all_goals simp only [h] at h0 ⊢
  · exact value_in s c hi h0
  · change (pFirstItem s c).2 = 0 at h0
    show InJ (pFirstItem s c).1
    unfold pFirstItem at *
    split
    · rename_i h; rw [if_pos h] at h0; exact after_in s 93 hi h0
    · rename_i h; rw [if_neg h] at h0; exact value_in s c hi h0
  · change (pFirstKey s c).2 = 0 at h0
    show InJ (pFirstKey s c).1
    unfold pFirstKey at *
    split
    · rename_i h; rw [if_pos h] at h0; exact after_in s 125 hi h0
    · exact keys_in s c hi
  · exact keys_in s c hi
  · exact colon_in s c hi
  · exact after_in s c hi h0
  · change (pWord s c).2 = 0 at h0
    show InJ (pWord s c).1
    unfold pWord at *
    split at h0
    · exact hi
    · rename_i x l hl
      split at h0
      · rename_i hc
        split at h0
        · rename_i hn
          simp only [if_pos hc, if_pos hn]
          exact in_to _ _ _ ho (by decide) (by decide) (by decide) (by decide)
        · rename_i hn
          simp only [if_pos hc, if_neg hn]
          exact ⟨ho, hi.st, fun _ => hn, fun h2 => absurd (h.symm.trans h2) (by decide), fun h2 => absurd (h.symm.trans h2) (by decide)⟩
      · exact absurd (show (3 : Nat) = 0 from h0) (by decide)
  · change (pMinus s c).2 = 0 at h0
    show InJ (pMinus s c).1
    unfold pMinus at *
    repeat' split
    · exact in_to _ _ _ ho (by decide) (by decide) (by decide) (by decide)
    · exact in_to _ _ _ ho (by decide) (by decide) (by decide) (by decide)
    · exact hi
  · exact zero_in s c hi h0
  · change (pDigits s c).2 = 0 at h0
    show InJ (pDigits s c).1
    unfold pDigits at *
    split
    · exact hi
    · rename_i h; rw [if_neg h] at h0; exact zero_in s c hi h0
  · show InJ (pPoint s c).1
    unfold pPoint
    split
    · exact in_to _ _ _ ho (by decide) (by decide) (by decide) (by decide)
    · exact hi
  · change (pBehind s c).2 = 0 at h0
    show InJ (pBehind s c).1
    unfold pBehind at *
    split
    · exact hi
    · rename_i h; rw [if_neg h] at h0; exact fraction_in s c hi h0
  · show InJ (pSign s c).1
    unfold pSign
    split
    · exact in_to _ _ _ ho (by decide) (by decide) (by decide) (by decide)
    · exact power_in s c hi
  · exact power_in s c hi
  · change (pPowers s c).2 = 0 at h0
    show InJ (pPowers s c).1
    unfold pPowers at *
    split
    · exact hi
    · rename_i h; rw [if_neg h] at h0; exact after_in s c hi h0
  · change (pText s c).2 = 0 at h0
    show InJ (pText s c).1
    unfold pText at *
    split
    · split
      · exact in_to _ _ _ ho (by decide) (by decide) (by decide) (by decide)
      · exact in_to _ _ _ ho (by decide) (by decide) (by decide) (by decide)
    split
    · exact in_to _ _ _ ho (by decide) (by decide) (by decide) (by decide)
    split
    · exact hi
    split
    · exact hi
    split
    · rename_i a1 a2 a3 a4 a5
      rw [if_neg a1, if_neg a2, if_neg a3, if_neg a4, if_pos a5] at h0
      exact absurd (show (3 : Nat) = 0 from h0) (by decide)
    · refine ⟨ho, by show jFollow ∈ jAll; decide, fun h => absurd (show jFollow = jWord from h) (by decide), fun _ => ?_, fun h => absurd (show jFollow = jHex from h) (by decide)⟩
      show 1 ≤ (if c < 224 then 1 else if c < 240 then 2 else 3) ∧ (if c < 224 then 1 else if c < 240 then 2 else 3) ≤ 3
      split
      · omega
      · split <;> omega
  · have hf := hi.fo h
    change (pFollow s c).2 = 0 at h0
    show InJ (pFollow s c).1
    unfold pFollow at *
    split
    · exact hi
    split
    · exact in_to _ _ _ ho (by decide) (by decide) (by decide) (by decide)
    · rename_i hl
      refine ⟨ho, hi.st, fun h2 => absurd (h.symm.trans h2) (by decide), fun _ => ?_, fun h2 => absurd (h.symm.trans h2) (by decide)⟩
      show 1 ≤ s.left - 1 ∧ s.left - 1 ≤ 3
      omega
  · show InJ (pStroke s c).1
    unfold pStroke
    split
    · exact in_to _ _ _ ho (by decide) (by decide) (by decide) (by decide)
    split
    · exact number_in s false hi
    · exact hi
  · exact hex_in s c hi h h0
  · show InJ (pSecond s c).1
    unfold pSecond
    split
    · exact in_to _ _ _ ho (by decide) (by decide) (by decide) (by decide)
    · exact hi
  · show InJ (pLetter s c).1
    unfold pLetter
    split
    · exact number_in s true hi
    · exact hi
end Go.Proofs.YtjfeebbhkolmoaaDoor
