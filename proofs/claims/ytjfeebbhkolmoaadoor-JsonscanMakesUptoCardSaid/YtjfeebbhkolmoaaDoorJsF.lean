/- The plain law of going on: what has no error yet is gone on with to a whole text by the first byte of a list that goes. -/
import Derived.Test.YtjfeebbhkolmoaaDoorJsD
namespace Go.Proofs.YtjfeebbhkolmoaaDoor
open Go.RowKit
set_option linter.unusedVariables false

theorem ps_Value (s : Sc) (c : Nat) (h : s.k = jValue) : pstep s c = pValue s c := by
  unfold pstep
  rw [if_pos h]
theorem ps_FirstItem (s : Sc) (c : Nat) (h : s.k = jFirstItem) : pstep s c = pFirstItem s c := by
  unfold pstep
  rw [if_neg (by rw [h]; decide), if_pos h]
theorem ps_FirstKey (s : Sc) (c : Nat) (h : s.k = jFirstKey) : pstep s c = pFirstKey s c := by
  unfold pstep
  rw [if_neg (by rw [h]; decide), if_neg (by rw [h]; decide), if_pos h]
theorem ps_Keys (s : Sc) (c : Nat) (h : s.k = jKeys) : pstep s c = pKeys s c := by
  unfold pstep
  rw [if_neg (by rw [h]; decide), if_neg (by rw [h]; decide), if_neg (by rw [h]; decide), if_pos h]
theorem ps_Colon (s : Sc) (c : Nat) (h : s.k = jColon) : pstep s c = pColon s c := by
  unfold pstep
  rw [if_neg (by rw [h]; decide), if_neg (by rw [h]; decide), if_neg (by rw [h]; decide), if_neg (by rw [h]; decide), if_pos h]
theorem ps_After (s : Sc) (c : Nat) (h : s.k = jAfter) : pstep s c = pAfter s c := by
  unfold pstep
  rw [if_neg (by rw [h]; decide), if_neg (by rw [h]; decide), if_neg (by rw [h]; decide), if_neg (by rw [h]; decide), if_neg (by rw [h]; decide), if_pos h]
theorem ps_Word (s : Sc) (c : Nat) (h : s.k = jWord) : pstep s c = pWord s c := by
  unfold pstep
  rw [if_neg (by rw [h]; decide), if_neg (by rw [h]; decide), if_neg (by rw [h]; decide), if_neg (by rw [h]; decide), if_neg (by rw [h]; decide), if_neg (by rw [h]; decide), if_pos h]
theorem ps_Minus (s : Sc) (c : Nat) (h : s.k = jMinus) : pstep s c = pMinus s c := by
  unfold pstep
  rw [if_neg (by rw [h]; decide), if_neg (by rw [h]; decide), if_neg (by rw [h]; decide), if_neg (by rw [h]; decide), if_neg (by rw [h]; decide), if_neg (by rw [h]; decide), if_neg (by rw [h]; decide), if_pos h]
theorem ps_Zero (s : Sc) (c : Nat) (h : s.k = jZero) : pstep s c = pZero s c := by
  unfold pstep
  rw [if_neg (by rw [h]; decide), if_neg (by rw [h]; decide), if_neg (by rw [h]; decide), if_neg (by rw [h]; decide), if_neg (by rw [h]; decide), if_neg (by rw [h]; decide), if_neg (by rw [h]; decide), if_neg (by rw [h]; decide), if_pos h]
theorem ps_Digits (s : Sc) (c : Nat) (h : s.k = jDigits) : pstep s c = pDigits s c := by
  unfold pstep
  rw [if_neg (by rw [h]; decide), if_neg (by rw [h]; decide), if_neg (by rw [h]; decide), if_neg (by rw [h]; decide), if_neg (by rw [h]; decide), if_neg (by rw [h]; decide), if_neg (by rw [h]; decide), if_neg (by rw [h]; decide), if_neg (by rw [h]; decide), if_pos h]
theorem ps_Point (s : Sc) (c : Nat) (h : s.k = jPoint) : pstep s c = pPoint s c := by
  unfold pstep
  rw [if_neg (by rw [h]; decide), if_neg (by rw [h]; decide), if_neg (by rw [h]; decide), if_neg (by rw [h]; decide), if_neg (by rw [h]; decide), if_neg (by rw [h]; decide), if_neg (by rw [h]; decide), if_neg (by rw [h]; decide), if_neg (by rw [h]; decide), if_neg (by rw [h]; decide), if_pos h]
theorem ps_Behind (s : Sc) (c : Nat) (h : s.k = jBehind) : pstep s c = pBehind s c := by
  unfold pstep
  rw [if_neg (by rw [h]; decide), if_neg (by rw [h]; decide), if_neg (by rw [h]; decide), if_neg (by rw [h]; decide), if_neg (by rw [h]; decide), if_neg (by rw [h]; decide), if_neg (by rw [h]; decide), if_neg (by rw [h]; decide), if_neg (by rw [h]; decide), if_neg (by rw [h]; decide), if_neg (by rw [h]; decide), if_pos h]
theorem ps_Sign (s : Sc) (c : Nat) (h : s.k = jSign) : pstep s c = pSign s c := by
  unfold pstep
  rw [if_neg (by rw [h]; decide), if_neg (by rw [h]; decide), if_neg (by rw [h]; decide), if_neg (by rw [h]; decide), if_neg (by rw [h]; decide), if_neg (by rw [h]; decide), if_neg (by rw [h]; decide), if_neg (by rw [h]; decide), if_neg (by rw [h]; decide), if_neg (by rw [h]; decide), if_neg (by rw [h]; decide), if_neg (by rw [h]; decide), if_pos h]
theorem ps_Power (s : Sc) (c : Nat) (h : s.k = jPower) : pstep s c = pPower s c := by
  unfold pstep
  rw [if_neg (by rw [h]; decide), if_neg (by rw [h]; decide), if_neg (by rw [h]; decide), if_neg (by rw [h]; decide), if_neg (by rw [h]; decide), if_neg (by rw [h]; decide), if_neg (by rw [h]; decide), if_neg (by rw [h]; decide), if_neg (by rw [h]; decide), if_neg (by rw [h]; decide), if_neg (by rw [h]; decide), if_neg (by rw [h]; decide), if_neg (by rw [h]; decide), if_pos h]
theorem ps_Powers (s : Sc) (c : Nat) (h : s.k = jPowers) : pstep s c = pPowers s c := by
  unfold pstep
  rw [if_neg (by rw [h]; decide), if_neg (by rw [h]; decide), if_neg (by rw [h]; decide), if_neg (by rw [h]; decide), if_neg (by rw [h]; decide), if_neg (by rw [h]; decide), if_neg (by rw [h]; decide), if_neg (by rw [h]; decide), if_neg (by rw [h]; decide), if_neg (by rw [h]; decide), if_neg (by rw [h]; decide), if_neg (by rw [h]; decide), if_neg (by rw [h]; decide), if_neg (by rw [h]; decide), if_pos h]
theorem ps_Text (s : Sc) (c : Nat) (h : s.k = jText) : pstep s c = pText s c := by
  unfold pstep
  rw [if_neg (by rw [h]; decide), if_neg (by rw [h]; decide), if_neg (by rw [h]; decide), if_neg (by rw [h]; decide), if_neg (by rw [h]; decide), if_neg (by rw [h]; decide), if_neg (by rw [h]; decide), if_neg (by rw [h]; decide), if_neg (by rw [h]; decide), if_neg (by rw [h]; decide), if_neg (by rw [h]; decide), if_neg (by rw [h]; decide), if_neg (by rw [h]; decide), if_neg (by rw [h]; decide), if_neg (by rw [h]; decide), if_pos h]
theorem ps_Follow (s : Sc) (c : Nat) (h : s.k = jFollow) : pstep s c = pFollow s c := by
  unfold pstep
  rw [if_neg (by rw [h]; decide), if_neg (by rw [h]; decide), if_neg (by rw [h]; decide), if_neg (by rw [h]; decide), if_neg (by rw [h]; decide), if_neg (by rw [h]; decide), if_neg (by rw [h]; decide), if_neg (by rw [h]; decide), if_neg (by rw [h]; decide), if_neg (by rw [h]; decide), if_neg (by rw [h]; decide), if_neg (by rw [h]; decide), if_neg (by rw [h]; decide), if_neg (by rw [h]; decide), if_neg (by rw [h]; decide), if_neg (by rw [h]; decide), if_pos h]
theorem ps_Stroke (s : Sc) (c : Nat) (h : s.k = jStroke) : pstep s c = pStroke s c := by
  unfold pstep
  rw [if_neg (by rw [h]; decide), if_neg (by rw [h]; decide), if_neg (by rw [h]; decide), if_neg (by rw [h]; decide), if_neg (by rw [h]; decide), if_neg (by rw [h]; decide), if_neg (by rw [h]; decide), if_neg (by rw [h]; decide), if_neg (by rw [h]; decide), if_neg (by rw [h]; decide), if_neg (by rw [h]; decide), if_neg (by rw [h]; decide), if_neg (by rw [h]; decide), if_neg (by rw [h]; decide), if_neg (by rw [h]; decide), if_neg (by rw [h]; decide), if_neg (by rw [h]; decide), if_pos h]
theorem ps_Hex (s : Sc) (c : Nat) (h : s.k = jHex) : pstep s c = pHex s c := by
  unfold pstep
  rw [if_neg (by rw [h]; decide), if_neg (by rw [h]; decide), if_neg (by rw [h]; decide), if_neg (by rw [h]; decide), if_neg (by rw [h]; decide), if_neg (by rw [h]; decide), if_neg (by rw [h]; decide), if_neg (by rw [h]; decide), if_neg (by rw [h]; decide), if_neg (by rw [h]; decide), if_neg (by rw [h]; decide), if_neg (by rw [h]; decide), if_neg (by rw [h]; decide), if_neg (by rw [h]; decide), if_neg (by rw [h]; decide), if_neg (by rw [h]; decide), if_neg (by rw [h]; decide), if_neg (by rw [h]; decide), if_pos h]
theorem ps_Second (s : Sc) (c : Nat) (h : s.k = jSecond) : pstep s c = pSecond s c := by
  unfold pstep
  rw [if_neg (by rw [h]; decide), if_neg (by rw [h]; decide), if_neg (by rw [h]; decide), if_neg (by rw [h]; decide), if_neg (by rw [h]; decide), if_neg (by rw [h]; decide), if_neg (by rw [h]; decide), if_neg (by rw [h]; decide), if_neg (by rw [h]; decide), if_neg (by rw [h]; decide), if_neg (by rw [h]; decide), if_neg (by rw [h]; decide), if_neg (by rw [h]; decide), if_neg (by rw [h]; decide), if_neg (by rw [h]; decide), if_neg (by rw [h]; decide), if_neg (by rw [h]; decide), if_neg (by rw [h]; decide), if_neg (by rw [h]; decide), if_pos h]
theorem ps_Letter (s : Sc) (c : Nat) (h : s.k = jLetter) : pstep s c = pLetter s c := by
  unfold pstep
  rw [if_neg (by rw [h]; decide), if_neg (by rw [h]; decide), if_neg (by rw [h]; decide), if_neg (by rw [h]; decide), if_neg (by rw [h]; decide), if_neg (by rw [h]; decide), if_neg (by rw [h]; decide), if_neg (by rw [h]; decide), if_neg (by rw [h]; decide), if_neg (by rw [h]; decide), if_neg (by rw [h]; decide), if_neg (by rw [h]; decide), if_neg (by rw [h]; decide), if_neg (by rw [h]; decide), if_neg (by rw [h]; decide), if_neg (by rw [h]; decide), if_neg (by rw [h]; decide), if_neg (by rw [h]; decide), if_neg (by rw [h]; decide), if_neg (by rw [h]; decide)]

def mayL : List Nat := [34, 93, 125, 58, 48, 128, 160, 144, 114, 117, 101, 97, 108, 115, 100, 99, 92]
/-- how many bytes a text in that state wants at most -/
def tC (s : Sc) : Nat := 1 + if s.key = true then 3 else 0
def bC (s : Sc) : Nat :=
  if s.k = jValue ∨ s.k = jFirstItem then 2 else if s.k = jFirstKey ∨ s.k = jKeys then 5 else if s.k = jColon then 3
  else if s.k = jWord then s.rest.data.toList.length else if s.k = jMinus ∨ s.k = jPoint ∨ s.k = jSign ∨ s.k = jPower then 1
  else if s.k = jText then tC s else if s.k = jFollow then s.left + tC s else if s.k = jStroke then 1 + tC s
  else if s.k = jHex then s.left + (if s.pair = true then 0 else 6) + tC s else if s.k = jSecond then 6 + tC s else if s.k = jLetter then 5 + tC s else 0
def mC (s : Sc) : Nat := s.open_.length + bC s

def endK : List Nat := [jAfter, jZero, jDigits, jBehind, jPowers]
/-- more of what a Scanner always is -/
structure InG (s : Sc) : Prop where
  inj : InJ s
  op : ∀ b ∈ s.open_, b = 91 ∨ b = 123
  en : s.k ∈ endK → s.done = true
  wd : s.k = jWord → s.rest.data.toList ≠ [] ∧ s.rest.data.toList.length ≤ 4 ∧ ∀ x ∈ s.rest.data.toList, x.toNat ∈ [114, 117, 101, 97, 108, 115]
  fo : s.k = jFollow → (s.low = 128 ∨ s.low = 160 ∨ s.low = 144) ∧ (s.low = 128 → 128 ≤ s.high) ∧ (s.low ≠ 128 → s.high = 191)
  hx : s.k = jHex → s.pair = true → (s.left = 3 → s.unit = 13) ∧ (s.left = 1 → 3520 ≤ s.unit ∧ s.unit ≤ 3583) ∧ (s.left = 2 → 220 ≤ s.unit ∧ s.unit ≤ 223)
/-- the byte of place i is the first that goes, and less is wanted then -/
def Goes (s : Sc) : Prop := ∃ pre c post, mayL = pre ++ c :: post ∧ (∀ x ∈ pre, (pstep s x).2 ≠ 0) ∧ (pstep s c).2 = 0 ∧ mC (pstep s c).1 < mC s

theorem goes_of (s : Sc) (pre : List Nat) (c : Nat) (post : List Nat) (s' : Sc) (hm : mayL = pre ++ c :: post) (hp : ∀ x ∈ pre, (pstep s x).2 ≠ 0) (hc : pstep s c = (s', 0)) (hs : mC s' < mC s) : Goes s :=
  ⟨pre, c, post, hm, hp, by rw [hc], by rw [hc]; exact hs⟩
theorem after_no (s : Sc) (c : Nat) (hb : blankB c = false) (h44 : c ≠ 44) (h : ¬ ((c = 93 ∧ topIs s 91 = true) ∨ (c = 125 ∧ topIs s 123 = true))) : (pAfter s c).2 = 3 := by
  unfold pAfter
  rw [hb, if_neg (by simp)]
  by_cases h0 : s.open_ = []
  · rw [if_pos h0]
  · rw [if_neg h0, if_neg h44, if_neg h]
theorem after_yes (s : Sc) (c : Nat) (hb : blankB c = false) (h44 : c ≠ 44) (h0 : s.open_ ≠ []) (h : (c = 93 ∧ topIs s 91 = true) ∨ (c = 125 ∧ topIs s 123 = true)) : pAfter s c = (sTo (sShut s) jAfter true, 0) := by
  unfold pAfter
  rw [hb, if_neg (by simp), if_neg h0, if_neg h44, if_pos h]
theorem bC_after (s : Sc) (d : Bool) : bC (sTo s jAfter d) = 0 := rfl
theorem bC_end (s : Sc) (h : s.k ∈ endK) : bC s = 0 := by
  unfold endK at h
  simp only [List.mem_cons, List.not_mem_nil, or_false] at h
  unfold bC
  rcases h with h | h | h | h | h <;> simp [h, jValue, jFirstItem, jFirstKey, jKeys, jColon, jAfter, jWord, jMinus, jZero, jDigits, jPoint, jBehind, jSign, jPower, jPowers, jText, jFollow, jStroke, jHex, jSecond, jLetter]
/-- a value may have ended: a bracket is shut -/
theorem goes_end (s : Sc) (hg : InG s) (hk : s.k ∈ endK) (h0 : s.open_ ≠ []) (hp : ∀ c, c = 34 ∨ c = 93 ∨ c = 125 → pstep s c = pAfter s c) : Goes s := by
  have hlen : 0 < s.open_.length := by
    rcases Nat.eq_zero_or_pos s.open_.length with h | h
    · exact absurd (List.eq_nil_of_length_eq_zero h) h0
    · exact h
  have hm : mC (sTo (sShut s) jAfter true) < mC s := by
    unfold mC
    rw [bC_after, bC_end s hk]
    show s.open_.dropLast.length + 0 < s.open_.length + 0
    rw [List.length_dropLast]; omega
  rcases open_cases s.open_ with h | ⟨l, x, h⟩
  · exact absurd h h0
  have hx := hg.op x (by rw [h]; simp)
  have ht : ∀ c, topIs s c = (x == c) := fun c => top_of s l x c h
  rcases hx with rfl | rfl
  · refine goes_of s [34] 93 _ _ rfl (fun y hy => ?_) ((hp 93 (.inr (.inl rfl))).trans (after_yes s 93 rfl (by decide) h0 (.inl ⟨rfl, by rw [ht]; rfl⟩))) hm
    obtain rfl := List.mem_singleton.1 hy
    rw [hp 34 (.inl rfl), after_no s 34 rfl (by decide) (by simp)]
    decide
  · refine goes_of s [34, 93] 125 _ _ rfl (fun y hy => ?_) ((hp 125 (.inr (.inr rfl))).trans (after_yes s 125 rfl (by decide) h0 (.inr ⟨rfl, by rw [ht]; rfl⟩))) hm
    rcases List.mem_cons.1 hy with rfl | hy
    · rw [hp 34 (.inl rfl), after_no s 34 rfl (by decide) (by simp)]; decide
    · obtain rfl := List.mem_singleton.1 hy
      rw [hp 93 (.inr (.inl rfl)), after_no s 93 rfl (by decide) (by rw [ht, ht]; simp)]; decide

theorem fraction_after (s : Sc) (c : Nat) (h : c = 34 ∨ c = 93 ∨ c = 125) : pFraction s c = pAfter s c := by
  unfold pFraction; rw [if_neg (by omega)]
theorem zero_after (s : Sc) (c : Nat) (h : c = 34 ∨ c = 93 ∨ c = 125) : pZero s c = pAfter s c := by
  unfold pZero; rw [if_neg (by omega)]; exact fraction_after s c h
theorem dig_no (c : Nat) (h : c = 34 ∨ c = 93 ∨ c = 125) : digitB c = false := by rcases h with rfl | rfl | rfl <;> rfl
theorem mC_to (s : Sc) (k : Nat) (d : Bool) : mC (sTo s k d) = s.open_.length + bC (sTo s k d) := rfl
theorem bC_of (s : Sc) (k : Nat) (h : s.k = k) : bC s = bC { s with k := k } := by rw [← h]

theorem hexD_vals : hexD 34 = 16 ∧ hexD 93 = 16 ∧ hexD 125 = 16 ∧ hexD 58 = 16 ∧ hexD 48 = 0 ∧ hexD 128 = 16 ∧ hexD 160 = 16 ∧ hexD 144 = 16 ∧ hexD 114 = 16 ∧ hexD 117 = 16 ∧ hexD 101 = 14 ∧ hexD 97 = 10 ∧ hexD 108 = 16 ∧ hexD 115 = 16 ∧ hexD 100 = 13 ∧ hexD 99 = 12 ∧ hexD 92 = 16 := by decide
theorem hex_none (s : Sc) (c : Nat) (h : hexD c = 16) : (pHex s c).2 = 3 := by unfold pHex; rw [if_pos h]
theorem may_at (i : Nat) (h : i < 17) : mayL = mayL.take i ++ mayL[i]'(by show i < 17; exact h) :: mayL.drop (i + 1) := by
  rw [← List.drop_eq_getElem_cons (by show i < 17; exact h), List.take_append_drop]

theorem goes_any (s : Sc) (hg : InG s) (hn : ¬ (s.done = true ∧ s.open_ = [])) : Goes s := by
  have hk := hg.inj.st
  unfold jAll at hk
  simp only [List.mem_cons, List.not_mem_nil, or_false] at hk
  have hend : s.k ∈ endK → s.open_ ≠ [] := fun h ho => hn ⟨hg.en h, ho⟩
  rcases hk with h | h | h | h | h | h | h | h | h | h | h | h | h | h | h | h | h | h | h | h | h
  · -- value
    refine goes_of s [] 34 _ (sTo (sKey s false) jText false) rfl (by simp) (by rw [ps_Value s _ h]; rfl) ?_
    rw [mC_to]; unfold mC; rw [bC_of s _ h]
    show s.open_.length + 1 < s.open_.length + 2
    omega
  · refine goes_of s [] 34 _ (sTo (sKey s false) jText false) rfl (by simp) (by rw [ps_FirstItem s _ h]; rfl) ?_
    rw [mC_to]; unfold mC; rw [bC_of s _ h]
    show s.open_.length + 1 < s.open_.length + 2
    omega
  · refine goes_of s [] 34 _ (sTo (sKey s true) jText false) rfl (by simp) (by rw [ps_FirstKey s _ h]; rfl) ?_
    rw [mC_to]; unfold mC; rw [bC_of s _ h]
    show s.open_.length + 4 < s.open_.length + 5
    omega
  · refine goes_of s [] 34 _ (sTo (sKey s true) jText false) rfl (by simp) (by rw [ps_Keys s _ h]; rfl) ?_
    rw [mC_to]; unfold mC; rw [bC_of s _ h]
    show s.open_.length + 4 < s.open_.length + 5
    omega
  · refine goes_of s [34, 93, 125] 58 _ (sTo s jValue false) rfl (fun x hx => ?_) (by rw [ps_Colon s _ h]; rfl) ?_
    · rw [ps_Colon s _ h]
      simp only [List.mem_cons, List.not_mem_nil, or_false] at hx
      rcases hx with rfl | rfl | rfl <;> exact (by decide : (3 : Nat) ≠ 0)
    · rw [mC_to]; unfold mC; rw [bC_of s _ h]
      show s.open_.length + 2 < s.open_.length + 3
      omega
  · exact goes_end s hg (by rw [h]; decide) (hend (by rw [h]; decide)) (fun c hc => ps_After s c h)
  · -- word
    obtain ⟨w1, w2, w3⟩ := hg.wd h
    cases hr : s.rest.data.toList with
    | nil => exact absurd hr w1
    | cons x l =>
      rw [hr] at w3
      have hx := w3 x (List.mem_cons_self ..)
      have hno : ∀ c, c ≠ x.toNat → (pstep s c).2 ≠ 0 := fun c hc => by
        rw [ps_Word s _ h]; unfold pWord; rw [hr]
        show ((if c = x.toNat then _ else (s, 3)) : Sc × Nat).2 ≠ 0
        rw [if_neg hc]; exact (by decide : (3 : Nat) ≠ 0)
      have hyes : pstep s x.toNat = (if l = [] then (sTo (sRest s ⟨l.toArray⟩) jAfter true, 0) else (sRest s ⟨l.toArray⟩, 0)) := by
        rw [ps_Word s _ h]; unfold pWord; rw [hr]
        show ((if x.toNat = x.toNat then _ else (s, 3)) : Sc × Nat) = _
        rw [if_pos rfl]
      have hms : mC s = s.open_.length + (l.length + 1) := by
        unfold mC; rw [bC_of s _ h]
        show s.open_.length + s.rest.data.toList.length = _
        rw [hr]; rfl
      have hfin : ∃ s', pstep s x.toNat = (s', 0) ∧ mC s' < mC s := by
        by_cases hl : l = []
        · rw [if_pos hl] at hyes
          refine ⟨_, hyes, ?_⟩
          rw [hms, mC_to, bC_after]
          show s.open_.length + 0 < _
          omega
        · rw [if_neg hl] at hyes
          refine ⟨_, hyes, ?_⟩
          rw [hms]
          unfold mC
          rw [bC_of _ _ (show (sRest s ⟨l.toArray⟩).k = jWord from h)]
          show s.open_.length + l.toArray.toList.length < _
          simp
      obtain ⟨s', e1, e2⟩ := hfin
      simp only [List.mem_cons, List.not_mem_nil, or_false] at hx
      have hpos : ∃ i, ∃ hi : i < 17, mayL[i]'(by show i < 17; exact hi) = x.toNat ∧ ∀ y ∈ mayL.take i, y ≠ x.toNat := by
        rcases hx with hx | hx | hx | hx | hx | hx <;> rw [hx]
        · exact ⟨8, by decide, rfl, by decide⟩
        · exact ⟨9, by decide, rfl, by decide⟩
        · exact ⟨10, by decide, rfl, by decide⟩
        · exact ⟨11, by decide, rfl, by decide⟩
        · exact ⟨12, by decide, rfl, by decide⟩
        · exact ⟨13, by decide, rfl, by decide⟩
      obtain ⟨i, hi, hi1, hi2⟩ := hpos
      refine goes_of s (mayL.take i) x.toNat (mayL.drop (i + 1)) s' ?_ (fun y hy => hno y (hi2 y hy)) e1 e2
      rw [← hi1]; exact may_at i hi
  · -- minus
    refine goes_of s [34, 93, 125, 58] 48 _ (sTo s jZero true) rfl (fun x hx => ?_) (by rw [ps_Minus s _ h]; rfl) ?_
    · rw [ps_Minus s _ h]
      simp only [List.mem_cons, List.not_mem_nil, or_false] at hx
      rcases hx with rfl | rfl | rfl | rfl <;> exact (by decide : (3 : Nat) ≠ 0)
    · rw [mC_to]; unfold mC; rw [bC_of s _ h]
      show s.open_.length + 0 < s.open_.length + 1
      omega
  · exact goes_end s hg (by rw [h]; decide) (hend (by rw [h]; decide)) (fun c hc => (ps_Zero s c h).trans (zero_after s c hc))
  · exact goes_end s hg (by rw [h]; decide) (hend (by rw [h]; decide)) (fun c hc => (ps_Digits s c h).trans (by unfold pDigits; rw [dig_no c hc, if_neg (by simp)]; exact zero_after s c hc))
  · refine goes_of s [34, 93, 125, 58] 48 _ (sTo s jBehind true) rfl (fun x hx => ?_) (by rw [ps_Point s _ h]; rfl) ?_
    · rw [ps_Point s _ h]
      simp only [List.mem_cons, List.not_mem_nil, or_false] at hx
      rcases hx with rfl | rfl | rfl | rfl <;> exact (by decide : (3 : Nat) ≠ 0)
    · rw [mC_to]; unfold mC; rw [bC_of s _ h]
      show s.open_.length + 0 < s.open_.length + 1
      omega
  · exact goes_end s hg (by rw [h]; decide) (hend (by rw [h]; decide)) (fun c hc => (ps_Behind s c h).trans (by unfold pBehind; rw [dig_no c hc, if_neg (by simp)]; exact fraction_after s c hc))
  · refine goes_of s [34, 93, 125, 58] 48 _ (sTo s jPowers true) rfl (fun x hx => ?_) (by rw [ps_Sign s _ h]; rfl) ?_
    · rw [ps_Sign s _ h]
      simp only [List.mem_cons, List.not_mem_nil, or_false] at hx
      rcases hx with rfl | rfl | rfl | rfl <;> exact (by decide : (3 : Nat) ≠ 0)
    · rw [mC_to]; unfold mC; rw [bC_of s _ h]
      show s.open_.length + 0 < s.open_.length + 1
      omega
  · refine goes_of s [34, 93, 125, 58] 48 _ (sTo s jPowers true) rfl (fun x hx => ?_) (by rw [ps_Power s _ h]; rfl) ?_
    · rw [ps_Power s _ h]
      simp only [List.mem_cons, List.not_mem_nil, or_false] at hx
      rcases hx with rfl | rfl | rfl | rfl <;> exact (by decide : (3 : Nat) ≠ 0)
    · rw [mC_to]; unfold mC; rw [bC_of s _ h]
      show s.open_.length + 0 < s.open_.length + 1
      omega
  · exact goes_end s hg (by rw [h]; decide) (hend (by rw [h]; decide)) (fun c hc => (ps_Powers s c h).trans (by unfold pPowers; rw [dig_no c hc, if_neg (by simp)]))
  · -- text
    have hms : mC s = s.open_.length + tC s := by unfold mC; rw [bC_of s _ h]; rfl
    have htx : pstep s 34 = if s.key = true then (sTo s jColon false, 0) else (sTo s jAfter true, 0) := by rw [ps_Text s _ h]; rfl
    by_cases hkey : s.key = true
    · rw [if_pos hkey] at htx
      refine goes_of s [] 34 _ _ rfl (by simp) htx ?_
      rw [hms, mC_to]; unfold tC; rw [if_pos hkey]
      show s.open_.length + 3 < _
      omega
    · rw [if_neg hkey] at htx
      refine goes_of s [] 34 _ _ rfl (by simp) htx ?_
      rw [hms, mC_to]; unfold tC; rw [if_neg hkey]
      show s.open_.length + 0 < _
      omega
  · -- follow
    obtain ⟨f1, f2, f3⟩ := hg.fo h
    obtain ⟨l1, l3⟩ := hg.inj.fo h
    have hms : mC s = s.open_.length + (s.left + tC s) := by unfold mC; rw [bC_of s _ h]; rfl
    have hno : ∀ c, c < s.low → (pstep s c).2 ≠ 0 := fun c hc => by
      rw [ps_Follow s _ h]; unfold pFollow; rw [if_pos (.inl hc)]; exact (by decide : (3 : Nat) ≠ 0)
    have hyes : ∀ c, s.low ≤ c → c ≤ s.high → ∃ s', pstep s c = (s', 0) ∧ mC s' < mC s := fun c h1 h2 => by
      rw [ps_Follow s _ h]; unfold pFollow; rw [if_neg (by omega), hms]
      by_cases hl : s.left = 1
      · rw [if_pos hl]
        refine ⟨_, rfl, ?_⟩
        rw [mC_to]
        show s.open_.length + tC s < _
        omega
      · rw [if_neg hl]
        refine ⟨_, rfl, ?_⟩
        unfold mC
        rw [bC_of _ _ (show (sBytes s (s.left - 1) 128 191).k = jFollow from h)]
        show s.open_.length + (s.left - 1 + tC s) < _
        omega
    rcases f1 with f | f | f
    · obtain ⟨s', e1, e2⟩ := hyes 128 (by omega) (f2 f)
      refine goes_of s [34, 93, 125, 58, 48] 128 _ s' rfl (fun x hx => hno x ?_) e1 e2
      simp only [List.mem_cons, List.not_mem_nil, or_false] at hx
      omega
    · obtain ⟨s', e1, e2⟩ := hyes 160 (by omega) (by rw [f3 (by omega)]; decide)
      refine goes_of s [34, 93, 125, 58, 48, 128] 160 _ s' rfl (fun x hx => hno x ?_) e1 e2
      simp only [List.mem_cons, List.not_mem_nil, or_false] at hx
      omega
    · obtain ⟨s', e1, e2⟩ := hyes 160 (by omega) (by rw [f3 (by omega)]; decide)
      refine goes_of s [34, 93, 125, 58, 48, 128] 160 _ s' rfl (fun x hx => hno x ?_) e1 e2
      simp only [List.mem_cons, List.not_mem_nil, or_false] at hx
      omega
  · refine goes_of s [] 34 _ (sTo s jText false) rfl (by simp) (by rw [ps_Stroke s _ h]; rfl) ?_
    rw [mC_to]; unfold mC; rw [bC_of s _ h]
    show s.open_.length + tC s < s.open_.length + (1 + tC s)
    omega
  · -- hex
    obtain ⟨a1, a2, a3, a4, a5, a6⟩ := hg.inj.hx h
    have hms : mC s = s.open_.length + (s.left + (if s.pair = true then 0 else 6) + tC s) := by unfold mC; rw [bC_of s _ h]; rfl
    have h48 : hexD 48 = 0 := rfl
    have hun : ∀ n u, bC (sUnit s n u) = n + (if s.pair = true then 0 else 6) + tC s := fun n u => by
      rw [bC_of _ _ (show (sUnit s n u).k = jHex from h)]; rfl
    have hlow : ∀ x ∈ [34, 93, 125, 58], (pstep s x).2 ≠ 0 := fun x hx => by
      rw [ps_Hex s _ h]
      simp only [List.mem_cons, List.not_mem_nil, or_false] at hx
      rcases hx with rfl | rfl | rfl | rfl <;> (rw [hex_none _ _ rfl]; decide)
    by_cases hp : s.pair = true
    · obtain ⟨b3, b1, b2⟩ := hg.hx h hp
      rw [if_pos hp] at hms
      have hl : s.left = 4 ∨ s.left = 3 ∨ s.left = 2 ∨ s.left = 1 := by omega
      rcases hl with hl | hl | hl | hl
      · have hu := a3 hl
        refine goes_of s [34, 93, 125, 58, 48, 128, 160, 144, 114, 117, 101, 97, 108, 115] 100 _ (sUnit s 3 13) rfl (fun x hx => ?_) ?_ ?_
        · rw [ps_Hex s _ h]
          simp only [List.mem_cons, List.not_mem_nil, or_false] at hx
          have hbad : ∀ d, hexD x = d → d ≠ 16 → d ≠ 13 → (pHex s x).2 ≠ 0 := fun d hd h16 h13 => by
            unfold pHex
            rw [hd, if_neg h16]
            simp only []
            rw [if_pos ⟨hl, hp, by rw [hu]; omega⟩]; exact (by decide : (3 : Nat) ≠ 0)
          rcases hx with rfl | rfl | rfl | rfl | rfl | rfl | rfl | rfl | rfl | rfl | rfl | rfl | rfl | rfl
          all_goals first
            | (rw [hex_none _ _ rfl]; decide)
            | exact hbad _ rfl (by decide) (by decide)
        · rw [ps_Hex s _ h]; unfold pHex
          rw [show hexD 100 = 13 from rfl, if_neg (by decide), hu, hl]
          simp only []
          rw [if_neg (by simp), if_neg (by simp), if_pos (by decide)]
        · rw [hms, hl]; unfold mC; rw [hun, if_pos hp]
          show s.open_.length + (3 + 0 + tC s) < _
          omega
      · have hu := b3 hl
        refine goes_of s [34, 93, 125, 58, 48, 128, 160, 144, 114, 117] 101 _ (sUnit s 2 222) rfl (fun x hx => ?_) ?_ ?_
        · rw [ps_Hex s _ h]
          simp only [List.mem_cons, List.not_mem_nil, or_false] at hx
          have hbad : ∀ d, hexD x = d → d ≠ 16 → d < 12 → (pHex s x).2 ≠ 0 := fun d hd h16 h12 => by
            unfold pHex
            rw [hd, if_neg h16]
            simp only []
            rw [if_neg (by omega), if_pos ⟨hl, by rw [hp, hu]; simp; omega⟩]; exact (by decide : (3 : Nat) ≠ 0)
          rcases hx with rfl | rfl | rfl | rfl | rfl | rfl | rfl | rfl | rfl | rfl
          all_goals first
            | (rw [hex_none _ _ rfl]; decide)
            | exact hbad _ rfl (by decide) (by decide)
        · rw [ps_Hex s _ h]; unfold pHex
          rw [show hexD 101 = 14 from rfl, if_neg (by decide), hu, hl]
          simp only []
          rw [if_neg (by simp), if_neg (by rw [hp]; simp), if_pos (by decide)]
        · rw [hms, hl]; unfold mC; rw [hun, if_pos hp]
          show s.open_.length + (2 + 0 + tC s) < _
          omega
      · refine goes_of s [34, 93, 125, 58] 48 _ (sUnit s 1 (16 * s.unit + 0)) rfl hlow ?_ ?_
        · rw [ps_Hex s _ h]; unfold pHex
          rw [h48, if_neg (by decide), hl]
          simp only []
          rw [if_neg (by omega), if_neg (by omega), if_pos (by decide)]
        · rw [hms, hl]; unfold mC; rw [hun, if_pos hp]
          show s.open_.length + (1 + 0 + tC s) < _
          omega
      · have hb := b1 hl
        refine goes_of s [34, 93, 125, 58] 48 _ (sTo (sUnit s 0 (16 * s.unit + 0)) jText false) rfl hlow ?_ ?_
        · rw [ps_Hex s _ h]; unfold pHex
          rw [h48, if_neg (by decide), hl]
          simp only []
          rw [if_neg (by omega), if_neg (by omega), if_neg (by decide), if_neg (by omega)]
        · rw [hms, hl, mC_to]
          show s.open_.length + tC s < _
          omega
    · have hpf : s.pair = false := by simpa using hp
      rw [if_neg hp] at hms
      have hl : s.left = 4 ∨ s.left = 3 ∨ s.left = 2 ∨ s.left = 1 := by omega
      rcases hl with hl | hl | hl | hl
      · refine goes_of s [34, 93, 125, 58] 48 _ (sUnit s 3 (16 * s.unit + 0)) rfl hlow ?_ ?_
        · rw [ps_Hex s _ h]; unfold pHex
          rw [h48, if_neg (by decide), hl]
          simp only []
          rw [if_neg (by rw [hpf]; simp), if_neg (by omega), if_pos (by decide)]
        · rw [hms, hl]; unfold mC; rw [hun, if_neg hp]
          show s.open_.length + (3 + 6 + tC s) < _
          omega
      · refine goes_of s [34, 93, 125, 58] 48 _ (sUnit s 2 (16 * s.unit + 0)) rfl hlow ?_ ?_
        · rw [ps_Hex s _ h]; unfold pHex
          rw [h48, if_neg (by decide), hl]
          simp only []
          rw [if_neg (by omega), if_neg (by rw [hpf]; simp; omega), if_pos (by decide)]
        · rw [hms, hl]; unfold mC; rw [hun, if_neg hp]
          show s.open_.length + (2 + 6 + tC s) < _
          omega
      · refine goes_of s [34, 93, 125, 58] 48 _ (sUnit s 1 (16 * s.unit + 0)) rfl hlow ?_ ?_
        · rw [ps_Hex s _ h]; unfold pHex
          rw [h48, if_neg (by decide), hl]
          simp only []
          rw [if_neg (by omega), if_neg (by omega), if_pos (by decide)]
        · rw [hms, hl]; unfold mC; rw [hun, if_neg hp]
          show s.open_.length + (1 + 6 + tC s) < _
          omega
      · by_cases hv : (16 * s.unit + 0) / 1024 = 54
        · refine goes_of s [34, 93, 125, 58] 48 _ (sTo (sUnit s 0 (16 * s.unit + 0)) jSecond false) rfl hlow ?_ ?_
          · rw [ps_Hex s _ h]; unfold pHex
            rw [h48, if_neg (by decide), hl]
            simp only []
            rw [if_neg (by omega), if_neg (by omega), if_neg (by decide), if_pos hv]
          · rw [hms, hl, mC_to]
            show s.open_.length + (6 + tC s) < _
            omega
        · refine goes_of s [34, 93, 125, 58] 48 _ (sTo (sUnit s 0 (16 * s.unit + 0)) jText false) rfl hlow ?_ ?_
          · rw [ps_Hex s _ h]; unfold pHex
            rw [h48, if_neg (by decide), hl]
            simp only []
            rw [if_neg (by omega), if_neg (by omega), if_neg (by decide), if_neg hv]
          · rw [hms, hl, mC_to]
            show s.open_.length + tC s < _
            omega
  · -- second
    refine goes_of s (mayL.take 16) 92 _ (sTo s jLetter false) rfl (fun x hx => ?_) (by rw [ps_Second s _ h]; rfl) ?_
    · rw [ps_Second s _ h]; unfold pSecond
      have : x ≠ 92 := by rintro rfl; revert hx; decide
      rw [if_neg this]; exact (by decide : (3 : Nat) ≠ 0)
    · rw [mC_to]; unfold mC; rw [bC_of s _ h]
      show s.open_.length + (5 + tC s) < s.open_.length + (6 + tC s)
      omega
  · refine goes_of s (mayL.take 9) 117 _ (sNumber s true) rfl (fun x hx => ?_) (by rw [ps_Letter s _ h]; rfl) ?_
    · rw [ps_Letter s _ h]; unfold pLetter
      have : x ≠ 117 := by rintro rfl; revert hx; decide
      rw [if_neg this]; exact (by decide : (3 : Nat) ≠ 0)
    · unfold mC; rw [bC_of s _ h]
      show s.open_.length + (4 + 0 + tC s) < s.open_.length + (5 + tC s)
      omega
end Go.Proofs.YtjfeebbhkolmoaaDoor
