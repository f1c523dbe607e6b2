/- More of what a Scanner always is: kept by each good byte; what has no error is gone on with in so many bytes. -/
import Derived.Test.YtjfeebbhkolmoaaDoorJsF
import Derived.Test.YtjfeebbhkolmoaaDoorWCuts
namespace Go.Proofs.YtjfeebbhkolmoaaDoor
open Go.RowKit
set_option linter.unusedVariables false

structure InX (s : Sc) : Prop where
  op : ∀ b ∈ s.open_, b = 91 ∨ b = 123
  en : s.k ∈ endK → s.done = true
  wd : s.k = jWord → s.rest.data.toList ≠ [] ∧ s.rest.data.toList.length ≤ 4 ∧ ∀ x ∈ s.rest.data.toList, x.toNat ∈ [114, 117, 101, 97, 108, 115]
  fo : s.k = jFollow → (s.low = 128 ∨ s.low = 160 ∨ s.low = 144) ∧ (s.low = 128 → 128 ≤ s.high) ∧ (s.low ≠ 128 → s.high = 191)
  hx : s.k = jHex → s.pair = true → (s.left = 3 → s.unit = 13) ∧ (s.left = 1 → 3520 ≤ s.unit ∧ s.unit ≤ 3583) ∧ (s.left = 2 → 220 ≤ s.unit ∧ s.unit ≤ 223)
theorem inG_of {s : Sc} (h : InJ s) (x : InX s) : InG s := ⟨h, x.op, x.en, x.wd, x.fo, x.hx⟩
theorem InG.x {s : Sc} (h : InG s) : InX s := ⟨h.op, h.en, h.wd, h.fo, h.hx⟩
def OpX (s : Sc) : Prop := ∀ b ∈ s.open_, b = 91 ∨ b = 123
theorem ix_to (s : Sc) (k : Nat) (d : Bool) (ho : OpX s) (hen : k ∈ endK → d = true) (h1 : k ≠ jWord) (h2 : k ≠ jFollow) (h3 : k ≠ jHex) : InX (sTo s k d) :=
  ⟨ho, hen, fun h => absurd h h1, fun h => absurd h h2, fun h => absurd h h3⟩
theorem ix_word (s : Sc) (r : ByteArray) (ho : OpX s) (hr : r.data.toList ≠ [] ∧ r.data.toList.length ≤ 4 ∧ ∀ x ∈ r.data.toList, x.toNat ∈ [114, 117, 101, 97, 108, 115]) : InX (sTo (sRest s r) jWord false) :=
  ⟨ho, fun h => absurd (show jWord ∈ endK from h) (by decide), fun _ => hr, fun h => absurd (show jWord = jFollow from h) (by decide), fun h => absurd (show jWord = jHex from h) (by decide)⟩
theorem after_ix (s : Sc) (c : Nat) (hi : InX s) (h0 : (pAfter s c).2 = 0) : InX (pAfter s c).1 := by
  have ho : OpX s := hi.op
  unfold pAfter at *
  split
  · exact ix_to s _ _ ho (by decide) (by decide) (by decide) (by decide)
  split
  · exact hi
  split
  · split
    · exact ix_to s _ _ ho (by decide) (by decide) (by decide) (by decide)
    · exact ix_to s _ _ ho (by decide) (by decide) (by decide) (by decide)
  split
  · refine ix_to _ _ _ ?_ (by decide) (by decide) (by decide) (by decide)
    intro b hb
    exact ho b (List.dropLast_subset _ hb)
  · exact hi
theorem open_ix (s : Sc) (c : Nat) (ho : OpX s) (hc : c = 91 ∨ c = 123) : OpX (sOpen s c) := by
  intro b hb
  rcases List.mem_append.1 hb with h | h
  · exact ho b h
  · rw [List.mem_singleton.1 h]; exact hc
theorem value_ix (s : Sc) (c : Nat) (hi : InX s) (h0 : (pValue s c).2 = 0) : InX (pValue s c).1 := by
  have ho : OpX s := hi.op
  unfold pValue at *
  split
  · exact hi
  split
  · split
    · exact hi
    · exact ix_to _ _ _ (open_ix s 91 ho (.inl rfl)) (by decide) (by decide) (by decide) (by decide)
  split
  · split
    · exact hi
    · exact ix_to _ _ _ (open_ix s 123 ho (.inr rfl)) (by decide) (by decide) (by decide) (by decide)
  split
  · exact ix_to _ _ _ ho (by decide) (by decide) (by decide) (by decide)
  split
  · exact ix_to _ _ _ ho (by decide) (by decide) (by decide) (by decide)
  split
  · exact ix_to _ _ _ ho (by decide) (by decide) (by decide) (by decide)
  split
  · exact ix_to _ _ _ ho (by decide) (by decide) (by decide) (by decide)
  split
  · exact ix_word s _ ho (by decide)
  split
  · exact ix_word s _ ho (by decide)
  split
  · exact ix_word s _ ho (by decide)
  · exact hi
theorem keys_ix (s : Sc) (c : Nat) (hi : InX s) : InX (pKeys s c).1 := by
  have ho : OpX s := hi.op
  unfold pKeys
  repeat' split
  · exact hi
  · exact ix_to _ _ _ ho (by decide) (by decide) (by decide) (by decide)
  · exact hi
theorem colon_ix (s : Sc) (c : Nat) (hi : InX s) : InX (pColon s c).1 := by
  have ho : OpX s := hi.op
  unfold pColon
  repeat' split
  · exact hi
  · exact ix_to _ _ _ ho (by decide) (by decide) (by decide) (by decide)
  · exact hi
theorem fraction_ix (s : Sc) (c : Nat) (hi : InX s) (h0 : (pFraction s c).2 = 0) : InX (pFraction s c).1 := by
  have ho : OpX s := hi.op
  unfold pFraction at *
  split
  · exact ix_to _ _ _ ho (by decide) (by decide) (by decide) (by decide)
  · rename_i h; rw [if_neg h] at h0; exact after_ix s c hi h0
theorem zero_ix (s : Sc) (c : Nat) (hi : InX s) (h0 : (pZero s c).2 = 0) : InX (pZero s c).1 := by
  have ho : OpX s := hi.op
  unfold pZero at *
  split
  · exact ix_to _ _ _ ho (by decide) (by decide) (by decide) (by decide)
  · rename_i h; rw [if_neg h] at h0; exact fraction_ix s c hi h0
theorem power_ix (s : Sc) (c : Nat) (hi : InX s) : InX (pPower s c).1 := by
  have ho : OpX s := hi.op
  unfold pPower
  split
  · exact ix_to _ _ _ ho (by decide) (by decide) (by decide) (by decide)
  · exact hi
theorem number_ix (s : Sc) (p : Bool) (hi : InX s) : InX (sNumber s p) :=
  ⟨hi.op, fun h => absurd (show jHex ∈ endK from h) (by decide), fun h => absurd (show jHex = jWord from h) (by decide), fun h => absurd (show jHex = jFollow from h) (by decide),
    fun _ _ => ⟨fun h => absurd (show (4 : Nat) = 3 from h) (by decide), fun h => absurd (show (4 : Nat) = 1 from h) (by decide), fun h => absurd (show (4 : Nat) = 2 from h) (by decide)⟩⟩
theorem hex_ix (s : Sc) (c : Nat) (hj : InJ s) (hi : InX s) (hk : s.k = jHex) (h0 : (pHex s c).2 = 0) : InX (pHex s c).1 := by
  have ho : OpX s := hi.op
  obtain ⟨a1, a2, a3, a4, a5, a6⟩ := hj.hx hk
  have hd := hexD_le c
  unfold pHex at *
  by_cases hx : hexD c = 16
  · rw [if_pos hx]; exact hi
  rw [if_neg hx] at h0 ⊢
  simp only [] at h0 ⊢
  by_cases n1 : s.left = 4 ∧ s.pair = true ∧ 16 * s.unit + hexD c ≠ 13
  · rw [if_pos n1] at h0; exact absurd (show (3 : Nat) = 0 from h0) (by decide)
  rw [if_neg n1] at h0 ⊢
  by_cases n2 : s.left = 3 ∧ s.pair ≠ decide ((16 * s.unit + hexD c) / 4 = 55)
  · rw [if_pos n2] at h0; exact absurd (show (3 : Nat) = 0 from h0) (by decide)
  rw [if_neg n2] at h0 ⊢
  by_cases n3 : 1 < s.left
  · rw [if_pos n3]
    refine ⟨ho, fun h => absurd (show jHex ∈ endK from hk ▸ h) (by decide), fun h => absurd (hk.symm.trans h) (by decide), fun h => absurd (hk.symm.trans h) (by decide), fun _ hp => ?_⟩
    have hp : s.pair = true := hp
    obtain ⟨b3, b1, b2⟩ := hi.hx hk hp
    show (s.left - 1 = 3 → 16 * s.unit + hexD c = 13) ∧ (s.left - 1 = 1 → 3520 ≤ 16 * s.unit + hexD c ∧ 16 * s.unit + hexD c ≤ 3583) ∧ (s.left - 1 = 2 → 220 ≤ 16 * s.unit + hexD c ∧ 16 * s.unit + hexD c ≤ 223)
    refine ⟨fun h => ?_, fun h => ?_, fun h => ?_⟩
    · by_cases q : 16 * s.unit + hexD c = 13
      · exact q
      · exact absurd ⟨by omega, hp, q⟩ n1
    · have := b2 (by omega); omega
    · by_cases q : (16 * s.unit + hexD c) / 4 = 55
      · omega
      · exact absurd ⟨by omega, by rw [hp, decide_eq_false q]; simp⟩ n2
  · rw [if_neg n3]
    split
    · exact ix_to _ _ _ ho (by decide) (by decide) (by decide) (by decide)
    · exact ix_to _ _ _ ho (by decide) (by decide) (by decide) (by decide)
theorem step_ix (s : Sc) (c : Nat) (hg : InG s) (h0 : (pstep s c).2 = 0) : InX (pstep s c).1 := by
  have hi := hg.x
  have ho : OpX s := hi.op
  have hk := hg.inj.st
  unfold jAll at hk
  simp only [List.mem_cons, List.not_mem_nil, or_false] at hk
  rcases hk with h | h | h | h | h | h | h | h | h | h | h | h | h | h | h | h | h | h | h | h | h
  · rw [ps_Value s c h] at h0 ⊢; exact value_ix s c hi h0
  · rw [ps_FirstItem s c h] at h0 ⊢
    unfold pFirstItem at *
    split
    · rename_i h; rw [if_pos h] at h0; exact after_ix s 93 hi h0
    · rename_i h; rw [if_neg h] at h0; exact value_ix s c hi h0
  · rw [ps_FirstKey s c h] at h0 ⊢
    unfold pFirstKey at *
    split
    · rename_i h; rw [if_pos h] at h0; exact after_ix s 125 hi h0
    · exact keys_ix s c hi
  · rw [ps_Keys s c h]; exact keys_ix s c hi
  · rw [ps_Colon s c h]; exact colon_ix s c hi
  · rw [ps_After s c h] at h0 ⊢; exact after_ix s c hi h0
  · rw [ps_Word s c h] at h0 ⊢
    obtain ⟨w1, w2, w3⟩ := hi.wd h
    unfold pWord at *
    cases hr : s.rest.data.toList with
    | nil => exact absurd hr w1
    | cons x l =>
      rw [hr] at w2 w3
      simp only [hr] at h0
      show InX ((if c = x.toNat then (if l = [] then (sTo (sRest s ⟨l.toArray⟩) jAfter true, 0) else (sRest s ⟨l.toArray⟩, 0)) else (s, 3)) : Sc × Nat).1
      split
      · split
        · exact ix_to _ _ _ ho (by decide) (by decide) (by decide) (by decide)
        · rename_i hl
          exact ⟨ho, fun h2 => absurd (show jWord ∈ endK from h ▸ h2) (by decide), fun _ => ⟨hl, by show l.length ≤ 4; simp at w2; omega, fun y hy => w3 y (List.mem_cons_of_mem _ hy)⟩, fun h2 => absurd (h.symm.trans h2) (by decide), fun h2 => absurd (h.symm.trans h2) (by decide)⟩
      · exact hi
  · rw [ps_Minus s c h]; unfold pMinus
    repeat' split
    · exact ix_to _ _ _ ho (by decide) (by decide) (by decide) (by decide)
    · exact ix_to _ _ _ ho (by decide) (by decide) (by decide) (by decide)
    · exact hi
  · rw [ps_Zero s c h] at h0 ⊢; exact zero_ix s c hi h0
  · rw [ps_Digits s c h] at h0 ⊢
    unfold pDigits at *
    split
    · exact hi
    · rename_i h; rw [if_neg h] at h0; exact zero_ix s c hi h0
  · rw [ps_Point s c h]; unfold pPoint
    split
    · exact ix_to _ _ _ ho (by decide) (by decide) (by decide) (by decide)
    · exact hi
  · rw [ps_Behind s c h] at h0 ⊢
    unfold pBehind at *
    split
    · exact hi
    · rename_i h; rw [if_neg h] at h0; exact fraction_ix s c hi h0
  · rw [ps_Sign s c h]; unfold pSign
    split
    · exact ix_to _ _ _ ho (by decide) (by decide) (by decide) (by decide)
    · exact power_ix s c hi
  · rw [ps_Power s c h]; exact power_ix s c hi
  · rw [ps_Powers s c h] at h0 ⊢
    unfold pPowers at *
    split
    · exact hi
    · rename_i h; rw [if_neg h] at h0; exact after_ix s c hi h0
  · rw [ps_Text s c h] at h0 ⊢
    unfold pText at *
    split
    · split
      · exact ix_to _ _ _ ho (by decide) (by decide) (by decide) (by decide)
      · exact ix_to _ _ _ ho (by decide) (by decide) (by decide) (by decide)
    split
    · exact ix_to _ _ _ ho (by decide) (by decide) (by decide) (by decide)
    split
    · exact hi
    split
    · exact hi
    split
    · rename_i a1 a2 a3 a4 a5
      rw [if_neg a1, if_neg a2, if_neg a3, if_neg a4, if_pos a5] at h0
      exact absurd (show (3 : Nat) = 0 from h0) (by decide)
    · refine ⟨ho, fun h => absurd (show jFollow ∈ endK from h) (by decide), fun h => absurd (show jFollow = jWord from h) (by decide), fun _ => ?_, fun h => absurd (show jFollow = jHex from h) (by decide)⟩
      show (lowJ c = 128 ∨ lowJ c = 160 ∨ lowJ c = 144) ∧ (lowJ c = 128 → 128 ≤ highJ c) ∧ (lowJ c ≠ 128 → highJ c = 191)
      unfold lowJ highJ
      by_cases k1 : c = 224
      · subst k1; decide
      by_cases k2 : c = 240
      · subst k2; decide
      rw [if_neg k1, if_neg k2]
      refine ⟨.inl rfl, fun _ => ?_, fun h => absurd rfl h⟩
      repeat' split
      all_goals omega
  · rw [ps_Follow s c h] at h0 ⊢
    unfold pFollow at *
    split
    · exact hi
    split
    · exact ix_to _ _ _ ho (by decide) (by decide) (by decide) (by decide)
    · exact ⟨ho, fun h2 => absurd (show jFollow ∈ endK from h ▸ h2) (by decide), fun h2 => absurd (h.symm.trans h2) (by decide), fun _ => ⟨.inl rfl, fun _ => by show 128 ≤ 191; decide, fun h => absurd rfl h⟩, fun h2 => absurd (h.symm.trans h2) (by decide)⟩
  · rw [ps_Stroke s c h]; unfold pStroke
    split
    · exact ix_to _ _ _ ho (by decide) (by decide) (by decide) (by decide)
    split
    · exact number_ix s false hi
    · exact hi
  · rw [ps_Hex s c h] at h0 ⊢; exact hex_ix s c hg.inj hi h h0
  · rw [ps_Second s c h]; unfold pSecond
    split
    · exact ix_to _ _ _ ho (by decide) (by decide) (by decide) (by decide)
    · exact hi
  · rw [ps_Letter s c h]; unfold pLetter
    split
    · exact number_ix s true hi
    · exact hi
theorem tell_inG {s : Sc} (b : Nat) (z : Int) (h : InG s) : InG (sTell s b z) := ⟨⟨h.inj.op, h.inj.st, h.inj.wd, h.inj.fo, h.inj.hx⟩, h.op, h.en, h.wd, h.fo, h.hx⟩
theorem feed_inG (s : Sc) (c : Nat) (hg : InG s) (h : (pfeed s c).bad = 0) : InG (pfeed s c) := by
  have hb := (feed_full s c h).1
  unfold pfeed at *
  rw [if_pos hb] at h ⊢
  have h : (pstep s c).2 = 0 := h
  exact tell_inG _ _ (inG_of (step_in s c hg.inj h) (step_ix s c hg h))
theorem write_inG (s : Sc) (l : List Nat) (hg : InG s) (h : (pwrite s l).bad = 0) : InG (pwrite s l) := by
  induction l generalizing s with
  | nil => exact hg
  | cons x l ih => exact ih _ (feed_inG s x hg (write_full _ l h).1) h
theorem Sc0_inG : InG Sc0 := ⟨Sc0_in, fun b h => (by cases h), fun h => absurd h (by decide), fun h => absurd h (by decide), fun h => absurd h (by decide), fun h => absurd h (by decide)⟩

/-- how far a text is good: that far it is a beginning -/
theorem write_good_part (s : Sc) (l : List Nat) (h : s.bad = 0) : ∃ n : Nat, n ≤ l.length ∧ (pwrite s l).size = s.size + n ∧ (pwrite s (l.take n)).bad = 0 := by
  induction l generalizing s with
  | nil => exact ⟨0, Nat.le_refl _, by simp [pwrite], h⟩
  | cons x l ih =>
    by_cases hb : (pfeed s x).bad = 0
    · obtain ⟨n, h1, h2, h3⟩ := ih (pfeed s x) hb
      refine ⟨n + 1, by simp; omega, ?_, h3⟩
      show (pwrite (pfeed s x) l).size = _
      rw [h2, (feed_full s x hb).2]; omega
    · refine ⟨0, Nat.zero_le _, ?_, h⟩
      show (pwrite (pfeed s x) l).size = _
      rw [pwrite_bad _ _ hb]
      unfold pfeed at hb ⊢
      rw [if_pos h] at hb ⊢
      have hb : (pstep s x).2 ≠ 0 := hb
      show (if (pstep s x).2 = 0 then (pstep s x).1.size + 1 else (pstep s x).1.size) = _
      rw [if_neg hb, (pstep_okc s x).2.1]; simp
theorem bC_le (s : Sc) (hg : InG s) : bC s ≤ 14 := by
  have hk := hg.inj.st
  unfold jAll at hk
  simp only [List.mem_cons, List.not_mem_nil, or_false] at hk
  have ht : tC s ≤ 4 := by unfold tC; split <;> omega
  rcases hk with h | h | h | h | h | h | h | h | h | h | h | h | h | h | h | h | h | h | h | h | h
  all_goals rw [bC_of s _ h]
  · show 2 ≤ 14; decide
  · show 2 ≤ 14; decide
  · show 5 ≤ 14; decide
  · show 5 ≤ 14; decide
  · show 3 ≤ 14; decide
  · show 0 ≤ 14; decide
  · have := (hg.wd h).2.1
    show s.rest.data.toList.length ≤ 14
    omega
  · show 1 ≤ 14; decide
  · show 0 ≤ 14; decide
  · show 0 ≤ 14; decide
  · show 1 ≤ 14; decide
  · show 0 ≤ 14; decide
  · show 1 ≤ 14; decide
  · show 1 ≤ 14; decide
  · show 0 ≤ 14; decide
  · show tC s ≤ 14; omega
  · have := (hg.inj.fo h).2
    show s.left + tC s ≤ 14
    omega
  · show 1 + tC s ≤ 14; omega
  · have := (hg.inj.hx h).2.1
    show s.left + (if s.pair = true then 0 else 6) + tC s ≤ 14
    split <;> omega
  · show 6 + tC s ≤ 14; omega
  · show 5 + tC s ≤ 14; omega
theorem mC_le (s : Sc) (hg : InG s) : mC s ≤ 142 := by
  have := bC_le s hg
  have := hg.inj.op
  unfold mC
  omega
end Go.Proofs.YtjfeebbhkolmoaaDoor
