/- (*crucibleref10.State).digits and Step whole, with the plain step, and what a State always is. -/
import Derived.Test.YtjfeebbhkolmoaaDoorR10Digits
import Derived.Test.YtjfeebbhkolmoaaDoorR10Digits2
import Derived.Test.YtjfeebbhkolmoaaDoorR10Stroke2
import Derived.Test.YtjfeebbhkolmoaaDoorR10Step0
namespace Go.Proofs.YtjfeebbhkolmoaaDoor.R
open Go.RowKit
set_option linter.unusedVariables false

def digitsStep (s : St) (c : Nat) : St × Bool :=
  if digZ c < 0 then (s, false)
  else if s.left = 4 then ({ s with number := 16 * s.number + digZ c, left := 3 }, decide (s.high = 0 ∨ 16 * s.number + digZ c = 13))
  else if s.left = 3 then ({ s with number := 16 * s.number + digZ c, left := 2 }, decide (s.high = 0 ↔ ¬ (220 ≤ 16 * s.number + digZ c ∧ 16 * s.number + digZ c ≤ 223)))
  else if s.left = 2 then ({ s with number := 16 * s.number + digZ c, left := 1 }, true)
  else if 0 < s.high then ({ s with number := 16 * s.number + digZ c, left := 0, mode := 1, high := 0, text := s.text ++ encN (65536 + (s.high - 55296) * 1024 + (16 * s.number + digZ c) - 56320).toNat }, true)
  else if 55296 ≤ 16 * s.number + digZ c ∧ 16 * s.number + digZ c ≤ 56319 then ({ s with number := 16 * s.number + digZ c, left := 0, mode := 4, high := 16 * s.number + digZ c }, true)
  else ({ s with number := 16 * s.number + digZ c, left := 0, mode := 1, text := s.text ++ encN (16 * s.number + digZ c).toNat }, true)

/-- the number so far is in its bounds -/
def InD (s : St) : Prop := 1 ≤ s.left ∧ s.left ≤ 4 ∧ 0 ≤ s.number ∧ (s.left = 4 → s.number = 0) ∧ (s.left = 3 → s.number ≤ 15) ∧ (s.left = 2 → s.number ≤ 255) ∧ (s.left = 1 → s.number ≤ 4095) ∧ (0 < s.high → (s.left = 2 → 220 ≤ s.number ∧ s.number ≤ 223) ∧ (s.left = 1 → 3520 ≤ s.number ∧ s.number ≤ 3583))
def InH (s : St) : Prop := s.high = 0 ∨ (55296 ≤ s.high ∧ s.high ≤ 56319)
def InS (s : St) : Prop := (s.mode = 0 ∨ s.mode = 1 ∨ s.mode = 2 ∨ s.mode = 3 ∨ s.mode = 4 ∨ s.mode = 5 ∨ s.mode = 6 ∨ s.mode = 7) ∧ InH s ∧ (s.mode = 3 → InD s) ∧ (s.mode = 6 → 1 ≤ s.left ∧ s.left ≤ 3)

theorem digits_any (w : World) (S : Nat → Prop) (g : Nat) (s : St) (c : Nat) (hi : InD s) (hh : InH s) (hs : StAt w S g s) (hl : s.text.length ≤ 140737488355000) :
    Calls Tryd.prog 89 #[.pointer (some ⟨g, 3, none⟩), .int .u8 c] w (StPost w S g (digitsStep s c).1 (digitsStep s c).2) := by
  obtain ⟨i1, i2, i3, i4, i5, i6, i7, i8⟩ := hi
  have hr := (digZ_range c).2
  unfold digitsStep
  by_cases h : digZ c < 0
  · rw [if_pos h]; exact digits_none w S g s c hs h
  rw [if_neg h]
  have hd : 0 ≤ digZ c := by omega
  by_cases h4 : s.left = 4
  · rw [if_pos h4]
    have hn := i4 h4
    rcases hh with hz | hp
    · rw [show decide (s.high = 0 ∨ 16 * s.number + digZ c = 13) = true from decide_eq_true (.inl hz)]
      exact digits_4z w S g s c hs hd (by omega) (by omega) h4 hz
    · by_cases hv : 16 * s.number + digZ c = 13
      · rw [show decide (s.high = 0 ∨ 16 * s.number + digZ c = 13) = true from decide_eq_true (.inr hv)]
        exact digits_4p w S g s c hs hd (by omega) (by omega) h4 (by omega) hv
      · rw [show decide (s.high = 0 ∨ 16 * s.number + digZ c = 13) = false from decide_eq_false (by omega)]
        exact digits_4n w S g s c hs hd (by omega) (by omega) h4 (by omega) hv
  rw [if_neg h4]
  by_cases h3 : s.left = 3
  · rw [if_pos h3]
    have hn := i5 h3
    by_cases hv : 220 ≤ 16 * s.number + digZ c ∧ 16 * s.number + digZ c ≤ 223
    · rcases hh with hz | hp
      · rw [show decide (s.high = 0 ↔ ¬ (220 ≤ 16 * s.number + digZ c ∧ 16 * s.number + digZ c ≤ 223)) = false from decide_eq_false (fun k => (k.1 hz) hv)]
        exact digits_3zc w S g s c hs hd (by omega) (by omega) h3 hz hv
      · rw [show decide (s.high = 0 ↔ ¬ (220 ≤ 16 * s.number + digZ c ∧ 16 * s.number + digZ c ≤ 223)) = true from decide_eq_true ⟨fun k => by omega, fun k => absurd hv k⟩]
        exact digits_3pc w S g s c hs hd (by omega) (by omega) h3 (by omega) hv
    · rcases hh with hz | hp
      · rw [show decide (s.high = 0 ↔ ¬ (220 ≤ 16 * s.number + digZ c ∧ 16 * s.number + digZ c ≤ 223)) = true from decide_eq_true ⟨fun _ => hv, fun _ => hz⟩]
        by_cases hq : 16 * s.number + digZ c < 220
        · exact digits_3za w S g s c hs hd (by omega) (by omega) h3 hz hq
        · exact digits_3zb w S g s c hs hd (by omega) (by omega) h3 hz (by omega)
      · rw [show decide (s.high = 0 ↔ ¬ (220 ≤ 16 * s.number + digZ c ∧ 16 * s.number + digZ c ≤ 223)) = false from decide_eq_false (fun k => by have := k.2 hv; omega)]
        by_cases hq : 16 * s.number + digZ c < 220
        · exact digits_3pa w S g s c hs hd (by omega) (by omega) h3 (by omega) hq
        · exact digits_3pb w S g s c hs hd (by omega) (by omega) h3 (by omega) (by omega)
  rw [if_neg h3]
  by_cases h2 : s.left = 2
  · rw [if_pos h2]
    have hn := i6 h2
    rcases hh with hz | hp
    · exact digits_2z w S g s c hs hd (by omega) (by omega) h2 hz
    · exact digits_2p w S g s c hs hd (by omega) (by omega) h2 (by omega)
  rw [if_neg h2]
  have h1 : s.left = 1 := by omega
  have hn := i7 h1
  by_cases hp : 0 < s.high
  · rw [if_pos hp]
    have hv := (i8 hp).2 h1
    refine digits_1p w S g s c hs hd (by omega) (by omega) h1 (by rcases hh with k | k <;> omega) (by omega) _ ?_ hl
    rw [Int.toNat_of_nonneg (by rcases hh with k | k <;> omega)]
  rw [if_neg hp]
  have hz : s.high = 0 := by rcases hh with k | k <;> omega
  by_cases hv : 55296 ≤ 16 * s.number + digZ c ∧ 16 * s.number + digZ c ≤ 56319
  · rw [if_pos hv]; exact digits_1s w S g s c hs hd (by omega) (by omega) h1 hz hv
  rw [if_neg hv]
  by_cases hq : 16 * s.number + digZ c < 55296
  · refine digits_1a w S g s c hs hd (by omega) (by omega) h1 hz hq _ ?_ hl
    rw [Int.toNat_of_nonneg (by omega)]
  · refine digits_1b w S g s c hs hd (by omega) (by omega) h1 hz (by omega) _ ?_ hl
    rw [Int.toNat_of_nonneg (by omega)]

set_option maxRecDepth 100000 in
theorem step_digits (w : World) (S : Nat → Prop) (g : Nat) (s : St) (c : Nat) (hm : s.mode = 3) (hi : InD s) (hh : InH s) (hs : StAt w S g s) (hl : s.text.length ≤ 140737488355000) :
    Calls Tryd.prog 74 #[.pointer (some ⟨g, 3, none⟩), .int .u8 c] w (StPost w S g (digitsStep s c).1 (digitsStep s c).2) := by
  have HI := Lib.hid (digits_any w S g s c hi hh hs hl)
  obtain ⟨v, hb, -, -⟩ := hs
  have c0 := hb.cell 3
  unfold stCells at c0
  rw [hm] at c0
  clear hb hm hl hi hh
  generalize (digitsStep s c).1 = s2 at *
  generalize (digitsStep s c).2 = ok at *
  go_enter Tryd.func74, Tryd.ntmps74
  go_wp2_with fail
  refine HI.out.mono ?_
  rintro e w2 ⟨rfl, h1⟩
  have H1 := Lib.hid h1
  clear h1
  go_wp2_with fail
  go_ret
  exact ⟨rfl, H1.out⟩

/-- one byte more -/
def stepF (s : St) (c : Nat) : St × Bool :=
  if s.mode = 0 then ({ s with mode := 1 }, decide (c = 34))
  else if s.mode = 1 then inside s c
  else if s.mode = 2 then strokeStep s c
  else if s.mode = 3 then digitsStep s c
  else if s.mode = 4 then ({ s with mode := 5 }, decide (c = 92))
  else if s.mode = 5 then ({ s with mode := 3, left := 4, number := 0 }, decide (c = 117))
  else if s.mode = 6 then bytesStep s c
  else (s, false)

theorem step_any (w : World) (S : Nat → Prop) (g : Nat) (s : St) (c : Nat) (hc : c < 256) (hi : InS s) (hs : StAt w S g s) (hl : s.text.length ≤ 140737488355000) :
    Calls Tryd.prog 74 #[.pointer (some ⟨g, 3, none⟩), .int .u8 c] w (StPost w S g (stepF s c).1 (stepF s c).2) := by
  obtain ⟨hm, hh, h3, h6⟩ := hi
  unfold stepF
  rcases hm with m | m | m | m | m | m | m | m
  · rw [if_pos m]
    by_cases k : c = 34
    · subst k; exact step_start_yes w S g s m hs
    · rw [show decide (c = 34) = false from decide_eq_false k]; exact step_start_no w S g s m hs c k
  · rw [if_neg (by omega), if_pos m]; exact step_inside w S g s c hc m hs hl
  · rw [if_neg (by omega), if_neg (by omega), if_pos m]; exact step_stroke w S g s c m hs hl
  · rw [if_neg (by omega), if_neg (by omega), if_neg (by omega), if_pos m]; exact step_digits w S g s c m (h3 m) hh hs hl
  · rw [if_neg (by omega), if_neg (by omega), if_neg (by omega), if_neg (by omega), if_pos m]
    by_cases k : c = 92
    · subst k; exact step_second_yes w S g s m hs
    · rw [show decide (c = 92) = false from decide_eq_false k]; exact step_second_no w S g s m hs c k
  · rw [if_neg (by omega), if_neg (by omega), if_neg (by omega), if_neg (by omega), if_neg (by omega), if_pos m]
    by_cases k : c = 117
    · subst k; exact step_letter_yes w S g s m hs
    · rw [show decide (c = 117) = false from decide_eq_false k]; exact step_letter_no w S g s m hs c k
  · rw [if_neg (by omega), if_neg (by omega), if_neg (by omega), if_neg (by omega), if_neg (by omega), if_neg (by omega), if_pos m]; exact step_bytes w S g s c m hs (by have := h6 m; omega) (by have := h6 m; omega) hl
  · rw [if_neg (by omega), if_neg (by omega), if_neg (by omega), if_neg (by omega), if_neg (by omega), if_neg (by omega), if_neg (by omega)]; exact step_end w S g s c m hs

theorem encN_len' (n : Nat) : (encN n).length ≤ 4 := (encN_len n).2
theorem inside_ok (s : St) (c : Nat) (hm : s.mode = 1) (hi : InH s) : InS (inside s c).1 ∧ (inside s c).1.text.length ≤ s.text.length + 4 := by
  unfold inside
  repeat' split
  all_goals (refine ⟨⟨?_, ?_, ?_, ?_⟩, ?_⟩ <;> simp_all [InH, InD])
  all_goals omega
theorem stroke_ok (s : St) (c : Nat) (hm : s.mode = 2) (hi : InH s) : InS (strokeStep s c).1 ∧ (strokeStep s c).1.text.length ≤ s.text.length + 4 := by
  unfold strokeStep
  split
  all_goals (refine ⟨⟨?_, ?_, ?_, ?_⟩, ?_⟩ <;> simp_all [InH, InD])
theorem bytes_ok (s : St) (c : Nat) (hm : s.mode = 6) (hi : InH s) (h6 : 1 ≤ s.left ∧ s.left ≤ 3) : InS (bytesStep s c).1 ∧ (bytesStep s c).1.text.length ≤ s.text.length + 4 := by
  unfold bytesStep
  split
  · exact ⟨⟨.inr (.inr (.inr (.inr (.inr (.inr (.inl hm)))))), hi, fun k => absurd (hm.symm.trans k) (by decide), fun _ => h6⟩, Nat.le_add_right _ _⟩
  · by_cases hL : s.left - 1 = 0
    · rw [if_pos hL]
      exact ⟨⟨.inr (.inl rfl), hi, fun k => absurd (show (1 : Int) = 3 from k) (by decide), fun k => absurd (show (1 : Int) = 6 from k) (by decide)⟩, by simp⟩
    · rw [if_neg hL]
      refine ⟨⟨by simp [hm], hi, fun k => ?_, fun k => ?_⟩, by simp⟩
      · exact absurd (hm.symm.trans k) (by decide)
      · show 1 ≤ s.left - 1 ∧ s.left - 1 ≤ 3
        omega
theorem digits_ok (s : St) (c : Nat) (hm : s.mode = 3) (hh : InH s) (hi : InD s) (hok : (digitsStep s c).2 = true) : InS (digitsStep s c).1 ∧ (digitsStep s c).1.text.length ≤ s.text.length + 4 := by
  have hr := (digZ_range c).2
  have hi0 := hi
  obtain ⟨i1, i2, i3, i4, i5, i6, i7, i8⟩ := hi
  have hM : s.mode = 0 ∨ s.mode = 1 ∨ s.mode = 2 ∨ s.mode = 3 ∨ s.mode = 4 ∨ s.mode = 5 ∨ s.mode = 6 ∨ s.mode = 7 := by omega
  have h36 : s.mode ≠ 6 := by omega
  revert hok
  unfold digitsStep
  generalize digZ c = d at *
  split
  · intro k; cases k
  rename_i hd
  split
  · rename_i h4
    intro k
    refine ⟨⟨hM, hh, fun _ => ?_, fun k => absurd k h36⟩, by show s.text.length ≤ _; omega⟩
    have := i4 h4
    refine ⟨?_, ?_, ?_, ?_, ?_, ?_, ?_, ?_⟩ <;> simp only [] <;> omega
  split
  · rename_i h3
    intro k
    have k := of_decide_eq_true k
    refine ⟨⟨hM, hh, fun _ => ?_, fun k => absurd k h36⟩, by show s.text.length ≤ _; omega⟩
    have := i5 h3
    refine ⟨?_, ?_, ?_, ?_, ?_, ?_, ?_, ?_⟩ <;> simp only [] <;> omega
  split
  · rename_i h2
    intro k
    refine ⟨⟨hM, hh, fun _ => ?_, fun k => absurd k h36⟩, by show s.text.length ≤ _; omega⟩
    have := i6 h2
    refine ⟨?_, ?_, ?_, ?_, ?_, ?_, ?_, ?_⟩ <;> simp only [] <;> omega
  split
  · intro _
    refine ⟨⟨.inr (.inl rfl), .inl rfl, fun k => absurd (show (1 : Int) = 3 from k) (by decide), fun k => absurd (show (1 : Int) = 6 from k) (by decide)⟩, ?_⟩
    simp only [List.length_append]
    have := encN_len' (65536 + (s.high - 55296) * 1024 + (16 * s.number + d) - 56320).toNat
    omega
  split
  · rename_i hv
    intro _
    exact ⟨⟨.inr (.inr (.inr (.inr (.inl rfl)))), .inr hv, fun k => absurd (show (4 : Int) = 3 from k) (by decide), fun k => absurd (show (4 : Int) = 6 from k) (by decide)⟩, by show s.text.length ≤ _; omega⟩
  · intro _
    refine ⟨⟨.inr (.inl rfl), hh, fun k => absurd (show (1 : Int) = 3 from k) (by decide), fun k => absurd (show (1 : Int) = 6 from k) (by decide)⟩, ?_⟩
    simp only [List.length_append]
    have := encN_len' (16 * s.number + d).toNat
    omega
theorem step_ok (s : St) (c : Nat) (hi : InS s) (hok : (stepF s c).2 = true) : InS (stepF s c).1 ∧ (stepF s c).1.text.length ≤ s.text.length + 4 := by
  obtain ⟨hm, hh, h3, h6⟩ := hi
  revert hok
  unfold stepF
  rcases hm with m | m | m | m | m | m | m | m
  · rw [if_pos m]; intro _
    exact ⟨⟨.inr (.inl rfl), hh, fun k => absurd (show (1 : Int) = 3 from k) (by decide), fun k => absurd (show (1 : Int) = 6 from k) (by decide)⟩, by show s.text.length ≤ _; omega⟩
  · rw [if_neg (by omega), if_pos m]; intro _; exact inside_ok s c m hh
  · rw [if_neg (by omega), if_neg (by omega), if_pos m]; intro _; exact stroke_ok s c m hh
  · rw [if_neg (by omega), if_neg (by omega), if_neg (by omega), if_pos m]; exact digits_ok s c m hh (h3 m)
  · rw [if_neg (by omega), if_neg (by omega), if_neg (by omega), if_neg (by omega), if_pos m]; intro _
    exact ⟨⟨.inr (.inr (.inr (.inr (.inr (.inl rfl))))), hh, fun k => absurd (show (5 : Int) = 3 from k) (by decide), fun k => absurd (show (5 : Int) = 6 from k) (by decide)⟩, by show s.text.length ≤ _; omega⟩
  · rw [if_neg (by omega), if_neg (by omega), if_neg (by omega), if_neg (by omega), if_neg (by omega), if_pos m]; intro _
    refine ⟨⟨.inr (.inr (.inr (.inl rfl))), hh, fun _ => ⟨(show (1 : Int) ≤ 4 from by decide), (show (4 : Int) ≤ 4 from by decide), (show (0 : Int) ≤ 0 from by decide), fun _ => rfl, fun k => absurd (show (4 : Int) = 3 from k) (by decide), fun k => absurd (show (4 : Int) = 2 from k) (by decide), fun k => absurd (show (4 : Int) = 1 from k) (by decide), fun _ => ⟨fun k => absurd (show (4 : Int) = 2 from k) (by decide), fun k => absurd (show (4 : Int) = 1 from k) (by decide)⟩⟩, fun k => absurd (show (3 : Int) = 6 from k) (by decide)⟩, by show s.text.length ≤ _; omega⟩
  · rw [if_neg (by omega), if_neg (by omega), if_neg (by omega), if_neg (by omega), if_neg (by omega), if_neg (by omega), if_pos m]; intro _; exact bytes_ok s c m hh (h6 m)
  · rw [if_neg (by omega), if_neg (by omega), if_neg (by omega), if_neg (by omega), if_neg (by omega), if_neg (by omega), if_neg (by omega)]; intro k; cases k
end Go.Proofs.YtjfeebbhkolmoaaDoor.R
