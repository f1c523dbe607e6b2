/- Plain law: a Scanner beside one that stands within more brackets. -/
import Derived.Test.YtjfeebbhkolmoaaDoorJsF
import Derived.Test.YtjfeebbhkolmoaaDoorJsE
namespace Go.Proofs.YtjfeebbhkolmoaaDoor
open Go.RowKit
set_option linter.unusedVariables false

def litK : List Nat := [jText, jFollow, jStroke, jHex, jSecond, jLetter]
/-- q stands as p does, within the brackets B besides -/
structure Sh (B : List Nat) (p q : Sc) : Prop where
  k : q.k = p.k ∨ (p.k = jValue ∧ q.k = jFirstItem)
  op : q.open_ = B ++ p.open_
  dn : q.done = p.done
  wd : p.k = jWord → q.rest = p.rest
  ky : p.k ∈ litK → q.key = p.key
  fo : p.k = jFollow → q.left = p.left ∧ q.low = p.low ∧ q.high = p.high
  hx : p.k = jHex → q.left = p.left ∧ q.unit = p.unit ∧ q.pair = p.pair
/-- a byte that p takes: what q does, where ov: too many brackets -/
def ShR (B : List Nat) (ov : Prop) (a b : Sc × Nat) : Prop := a.2 = 0 → (ov → b.2 = 5) ∧ (¬ ov → b.2 = 0 ∧ Sh B a.1 b.1)
section
variable {B : List Nat} {p q : Sc} {ov : Prop}
theorem ShR.no {a b : Sc × Nat} (h : a.2 ≠ 0) : ShR B ov a b := fun h0 => absurd h0 h
theorem ShR.three {b : Sc × Nat} : ShR B ov (p, 3) b := ShR.no (show (3 : Nat) ≠ 0 by decide)
theorem ShR.ok {p' q' : Sc} (h : Sh B p' q') : ShR B False (p', 0) (q', 0) := fun _ => ⟨fun h => h.elim, fun _ => ⟨rfl, h⟩⟩
theorem sh_to (h : Sh B p q) (k : Nat) (d : Bool) (h1 : k ≠ jWord) (h2 : k ∉ litK) : Sh B (sTo p k d) (sTo q k d) :=
  ⟨.inl rfl, h.op, rfl, fun e => absurd e h1, fun e => absurd e h2, fun e => absurd (show jFollow ∈ litK by decide) (by have e : k = jFollow := e; rw [← e]; exact h2), fun e => absurd (show jHex ∈ litK by decide) (by have e : k = jHex := e; rw [← e]; exact h2)⟩
theorem sh_mid (h : Sh B p q) (hk : q.key = p.key) (k : Nat) (h1 : k ≠ jWord) (h2 : k ≠ jFollow) (h3 : k ≠ jHex) : Sh B (sTo p k false) (sTo q k false) :=
  ⟨.inl rfl, h.op, rfl, fun e => absurd e h1, fun _ => hk, fun e => absurd e h2, fun e => absurd e h3⟩
theorem sh_text (h : Sh B p q) (b : Bool) : Sh B (sTo (sKey p b) jText false) (sTo (sKey q b) jText false) :=
  ⟨.inl rfl, h.op, rfl, fun e => absurd (show jText = jWord from e) (by decide), fun _ => rfl, fun e => absurd (show jText = jFollow from e) (by decide), fun e => absurd (show jText = jHex from e) (by decide)⟩
theorem sh_word (h : Sh B p q) (r : ByteArray) : Sh B (sTo (sRest p r) jWord false) (sTo (sRest q r) jWord false) :=
  ⟨.inl rfl, h.op, rfl, fun _ => rfl, fun e => absurd (show jWord ∈ litK from e) (by decide), fun e => absurd (show jWord = jFollow from e) (by decide), fun e => absurd (show jWord = jHex from e) (by decide)⟩
theorem sh_number (h : Sh B p q) (hk : q.key = p.key) (b : Bool) : Sh B (sNumber p b) (sNumber q b) :=
  ⟨.inl rfl, h.op, rfl, fun e => absurd (show jHex = jWord from e) (by decide), fun _ => hk, fun e => absurd (show jHex = jFollow from e) (by decide), fun _ => ⟨rfl, rfl, rfl⟩⟩
theorem sh_open (h : Sh B p q) (c k : Nat) (h1 : k ≠ jWord) (h2 : k ∉ litK) : Sh B (sTo (sOpen p c) k false) (sTo (sOpen q c) k false) :=
  ⟨.inl rfl, by show q.open_ ++ [c] = B ++ (p.open_ ++ [c]); rw [h.op, List.append_assoc], rfl, fun e => absurd e h1, fun e => absurd e h2, fun e => absurd (show jFollow ∈ litK by decide) (by have e : k = jFollow := e; rw [← e]; exact h2), fun e => absurd (show jHex ∈ litK by decide) (by have e : k = jHex := e; rw [← e]; exact h2)⟩
theorem sh_shut (h : Sh B p q) (h0 : p.open_ ≠ []) : Sh B (sTo (sShut p) jAfter true) (sTo (sShut q) jAfter true) :=
  ⟨.inl rfl, by show q.open_.dropLast = B ++ p.open_.dropLast; rw [h.op, List.dropLast_append_of_ne_nil h0], rfl, fun e => absurd (show jAfter = jWord from e) (by decide), fun e => absurd (show jAfter ∈ litK from e) (by decide), fun e => absurd (show jAfter = jFollow from e) (by decide), fun e => absurd (show jAfter = jHex from e) (by decide)⟩
theorem sh_top (h : Sh B p q) (h0 : p.open_ ≠ []) (c : Nat) : topIs q c = topIs p c := by
  unfold topIs
  rw [h.op, List.getLast?_append, List.getLast?_eq_some_getLast h0]
  rfl
theorem sh_ne (h : Sh B p q) (h0 : p.open_ ≠ []) : q.open_ ≠ [] := by
  rw [h.op]; intro e
  exact h0 (List.append_eq_nil_iff.1 e).2

theorem after_sh (h : Sh B p q) (c : Nat) : ShR B False (pAfter p c) (pAfter q c) := by
  unfold pAfter
  by_cases hb : blankB c = true
  · rw [if_pos hb, if_pos hb]; exact ShR.ok (sh_to h _ _ (by decide) (by decide))
  rw [if_neg hb, if_neg hb]
  by_cases h0 : p.open_ = []
  · rw [if_pos h0]; exact ShR.three
  rw [if_neg h0, if_neg (sh_ne h h0), sh_top h h0, sh_top h h0]
  split
  · split
    · exact ShR.ok (sh_to h _ _ (by decide) (by decide))
    · exact ShR.ok (sh_to h _ _ (by decide) (by decide))
  split
  · exact ShR.ok (sh_shut h h0)
  · exact ShR.three
/-- a bracket too many -/
def Over (n : Nat) (p : Sc) (c : Nat) : Prop := (p.k = jValue ∨ p.k = jFirstItem) ∧ (c = 91 ∨ c = 123) ∧ n + p.open_.length = 128
theorem ShR.over {a b : Sc × Nat} (h : ShR B False a b) (hn : ¬ ov) : ShR B ov a b := fun h0 => ⟨fun h1 => absurd h1 hn, fun _ => (h h0).2 (fun h => h)⟩
theorem value_sh (h : Sh B p q) (hk : p.k = jValue ∨ p.k = jFirstItem) (c : Nat) : ShR B (Over B.length p c) (pValue p c) (pValue q c) := by
  unfold pValue
  by_cases hb : blankB c = true
  · rw [if_pos hb, if_pos hb]
    exact (ShR.ok h).over (fun ⟨_, h1, _⟩ => by rcases h1 with rfl | rfl <;> revert hb <;> decide)
  rw [if_neg hb, if_neg hb]
  have hl : q.open_.length = B.length + p.open_.length := by rw [h.op, List.length_append]
  by_cases h1 : c = 91
  · subst h1
    rw [if_pos rfl, if_pos rfl]
    by_cases hp : p.open_.length = 128
    · rw [if_pos hp]; exact ShR.no (show (5 : Nat) ≠ 0 by decide)
    rw [if_neg hp]
    intro _
    refine ⟨fun ⟨_, _, h3⟩ => by rw [if_pos (by omega)], fun hn => ?_⟩
    rw [if_neg (fun e => hn ⟨hk, .inl rfl, by omega⟩)]
    exact ⟨rfl, sh_open h 91 _ (by decide) (by decide)⟩
  rw [if_neg h1, if_neg h1]
  by_cases h2 : c = 123
  · subst h2
    rw [if_pos rfl, if_pos rfl]
    by_cases hp : p.open_.length = 128
    · rw [if_pos hp]; exact ShR.no (show (5 : Nat) ≠ 0 by decide)
    rw [if_neg hp]
    intro _
    refine ⟨fun ⟨_, _, h3⟩ => by rw [if_pos (by omega)], fun hn => ?_⟩
    rw [if_neg (fun e => hn ⟨hk, .inr rfl, by omega⟩)]
    exact ⟨rfl, sh_open h 123 _ (by decide) (by decide)⟩
  rw [if_neg h2, if_neg h2]
  have hov : ¬ Over B.length p c := fun ⟨_, h3, _⟩ => by omega
  refine ShR.over ?_ hov
  split
  · exact ShR.ok (sh_text h _)
  split
  · exact ShR.ok (sh_to h _ _ (by decide) (by decide))
  split
  · exact ShR.ok (sh_to h _ _ (by decide) (by decide))
  split
  · exact ShR.ok (sh_to h _ _ (by decide) (by decide))
  split
  · exact ShR.ok (sh_word h _)
  split
  · exact ShR.ok (sh_word h _)
  split
  · exact ShR.ok (sh_word h _)
  · exact ShR.three
theorem keys_sh (h : Sh B p q) (c : Nat) : ShR B False (pKeys p c) (pKeys q c) := by
  unfold pKeys
  split
  · exact ShR.ok h
  split
  · exact ShR.ok (sh_text h _)
  · exact ShR.three
theorem fraction_sh (h : Sh B p q) (c : Nat) : ShR B False (pFraction p c) (pFraction q c) := by
  unfold pFraction
  split
  · exact ShR.ok (sh_to h _ _ (by decide) (by decide))
  · exact after_sh h c
theorem zero_sh (h : Sh B p q) (c : Nat) : ShR B False (pZero p c) (pZero q c) := by
  unfold pZero
  split
  · exact ShR.ok (sh_to h _ _ (by decide) (by decide))
  · exact fraction_sh h c
theorem power_sh (h : Sh B p q) (c : Nat) : ShR B False (pPower p c) (pPower q c) := by
  unfold pPower
  split
  · exact ShR.ok (sh_to h _ _ (by decide) (by decide))
  · exact ShR.three
theorem word_sh (h : Sh B p q) (hk : p.k = jWord) (hq : q.k = jWord) (c : Nat) : ShR B False (pWord p c) (pWord q c) := by
  unfold pWord
  rw [h.wd hk]
  split
  · exact ShR.three
  · split
    · split
      · exact ShR.ok ⟨.inl rfl, h.op, rfl, fun e => absurd (show jAfter = jWord from e) (by decide), fun e => absurd (show jAfter ∈ litK from e) (by decide), fun e => absurd (show jAfter = jFollow from e) (by decide), fun e => absurd (show jAfter = jHex from e) (by decide)⟩
      · exact ShR.ok ⟨h.k, h.op, h.dn, fun _ => rfl, h.ky, h.fo, h.hx⟩
    · exact ShR.three
theorem text_sh (h : Sh B p q) (hk : q.key = p.key) (c : Nat) : ShR B False (pText p c) (pText q c) := by
  unfold pText
  rw [hk]
  split
  · split
    · exact ShR.ok (sh_to h _ _ (by decide) (by decide))
    · exact ShR.ok (sh_to h _ _ (by decide) (by decide))
  split
  · exact ShR.ok (sh_mid h hk _ (by decide) (by decide) (by decide))
  split
  · exact ShR.three
  split
  · exact ShR.ok h
  split
  · exact ShR.three
  · exact ShR.ok ⟨.inl rfl, h.op, rfl, fun e => absurd (show jFollow = jWord from e) (by decide), fun _ => hk, fun _ => ⟨rfl, rfl, rfl⟩, fun e => absurd (show jFollow = jHex from e) (by decide)⟩
theorem follow_sh (h : Sh B p q) (hp : p.k = jFollow) (hq : q.k = jFollow) (c : Nat) : ShR B False (pFollow p c) (pFollow q c) := by
  have hk := h.ky (by rw [hp]; decide)
  obtain ⟨f1, f2, f3⟩ := h.fo hp
  unfold pFollow
  rw [f1, f2, f3]
  split
  · exact ShR.three
  split
  · exact ShR.ok ⟨.inl rfl, h.op, rfl, fun e => absurd (show jText = jWord from e) (by decide), fun _ => hk, fun e => absurd (show jText = jFollow from e) (by decide), fun e => absurd (show jText = jHex from e) (by decide)⟩
  · exact ShR.ok ⟨.inl (by show q.k = p.k; rw [hp, hq]), h.op, h.dn, fun e => absurd (hp.symm.trans e) (by decide), fun _ => hk, fun _ => ⟨rfl, rfl, rfl⟩, fun e => absurd (hp.symm.trans e) (by decide)⟩
theorem stroke_sh (h : Sh B p q) (hk : q.key = p.key) (c : Nat) : ShR B False (pStroke p c) (pStroke q c) := by
  unfold pStroke
  split
  · exact ShR.ok (sh_mid h hk _ (by decide) (by decide) (by decide))
  split
  · exact ShR.ok (sh_number h hk _)
  · exact ShR.three
theorem hex_sh (h : Sh B p q) (hp : p.k = jHex) (hq : q.k = jHex) (c : Nat) : ShR B False (pHex p c) (pHex q c) := by
  have hk := h.ky (by rw [hp]; decide)
  obtain ⟨f1, f2, f3⟩ := h.hx hp
  unfold pHex
  rw [f1, f2, f3]
  simp only []
  split
  · exact ShR.three
  split
  · exact ShR.three
  split
  · exact ShR.three
  split
  · exact ShR.ok ⟨.inl (by show q.k = p.k; rw [hp, hq]), h.op, h.dn, fun e => absurd (hp.symm.trans e) (by decide), fun _ => hk, fun e => absurd (hp.symm.trans e) (by decide), fun _ => ⟨rfl, rfl, f3⟩⟩
  split
  · exact ShR.ok ⟨.inl rfl, h.op, rfl, fun e => absurd (show jSecond = jWord from e) (by decide), fun _ => hk, fun e => absurd (show jSecond = jFollow from e) (by decide), fun e => absurd (show jSecond = jHex from e) (by decide)⟩
  · exact ShR.ok ⟨.inl rfl, h.op, rfl, fun e => absurd (show jText = jWord from e) (by decide), fun _ => hk, fun e => absurd (show jText = jFollow from e) (by decide), fun e => absurd (show jText = jHex from e) (by decide)⟩

theorem no_over (c : Nat) (h1 : p.k ≠ jValue) (h2 : p.k ≠ jFirstItem) : ¬ Over B.length p c := fun ⟨h, _⟩ => by
  rcases h with h | h
  · exact h1 h
  · exact h2 h
/-- one byte more -/
theorem sh_step (h : Sh B p q) (hk : p.k ∈ jAll) (c : Nat) : ShR B (Over B.length p c) (pstep p c) (pstep q c) := by
  rcases h.k with hq | ⟨h1, h2⟩
  · unfold jAll at hk
    simp only [List.mem_cons, List.not_mem_nil, or_false] at hk
    rcases hk with e | e | e | e | e | e | e | e | e | e | e | e | e | e | e | e | e | e | e | e | e
    all_goals rw [e] at hq
    · rw [ps_Value p c e, ps_Value q c hq]; exact value_sh h (.inl e) c
    · rw [ps_FirstItem p c e, ps_FirstItem q c hq]
      unfold pFirstItem
      split
      · exact (after_sh h 93).over (fun ⟨_, h3, _⟩ => by omega)
      · exact value_sh h (.inr e) c
    · rw [ps_FirstKey p c e, ps_FirstKey q c hq]
      refine ShR.over ?_ (no_over c (by rw [e]; decide) (by rw [e]; decide))
      unfold pFirstKey
      split
      · exact after_sh h 125
      · exact keys_sh h c
    · rw [ps_Keys p c e, ps_Keys q c hq]
      exact ShR.over (keys_sh h c) (no_over c (by rw [e]; decide) (by rw [e]; decide))
    · rw [ps_Colon p c e, ps_Colon q c hq]
      refine ShR.over ?_ (no_over c (by rw [e]; decide) (by rw [e]; decide))
      unfold pColon
      split
      · exact ShR.ok h
      split
      · exact ShR.ok (sh_to h _ _ (by decide) (by decide))
      · exact ShR.three
    · rw [ps_After p c e, ps_After q c hq]
      exact ShR.over (after_sh h c) (no_over c (by rw [e]; decide) (by rw [e]; decide))
    · rw [ps_Word p c e, ps_Word q c hq]
      exact ShR.over (word_sh h e hq c) (no_over c (by rw [e]; decide) (by rw [e]; decide))
    · rw [ps_Minus p c e, ps_Minus q c hq]
      refine ShR.over ?_ (no_over c (by rw [e]; decide) (by rw [e]; decide))
      unfold pMinus
      split
      · exact ShR.ok (sh_to h _ _ (by decide) (by decide))
      split
      · exact ShR.ok (sh_to h _ _ (by decide) (by decide))
      · exact ShR.three
    · rw [ps_Zero p c e, ps_Zero q c hq]
      exact ShR.over (zero_sh h c) (no_over c (by rw [e]; decide) (by rw [e]; decide))
    · rw [ps_Digits p c e, ps_Digits q c hq]
      refine ShR.over ?_ (no_over c (by rw [e]; decide) (by rw [e]; decide))
      unfold pDigits
      split
      · exact ShR.ok h
      · exact zero_sh h c
    · rw [ps_Point p c e, ps_Point q c hq]
      refine ShR.over ?_ (no_over c (by rw [e]; decide) (by rw [e]; decide))
      unfold pPoint
      split
      · exact ShR.ok (sh_to h _ _ (by decide) (by decide))
      · exact ShR.three
    · rw [ps_Behind p c e, ps_Behind q c hq]
      refine ShR.over ?_ (no_over c (by rw [e]; decide) (by rw [e]; decide))
      unfold pBehind
      split
      · exact ShR.ok h
      · exact fraction_sh h c
    · rw [ps_Sign p c e, ps_Sign q c hq]
      refine ShR.over ?_ (no_over c (by rw [e]; decide) (by rw [e]; decide))
      unfold pSign
      split
      · exact ShR.ok (sh_to h _ _ (by decide) (by decide))
      · exact power_sh h c
    · rw [ps_Power p c e, ps_Power q c hq]
      exact ShR.over (power_sh h c) (no_over c (by rw [e]; decide) (by rw [e]; decide))
    · rw [ps_Powers p c e, ps_Powers q c hq]
      refine ShR.over ?_ (no_over c (by rw [e]; decide) (by rw [e]; decide))
      unfold pPowers
      split
      · exact ShR.ok h
      · exact after_sh h c
    · rw [ps_Text p c e, ps_Text q c hq]
      exact ShR.over (text_sh h (h.ky (by rw [e]; decide)) c) (no_over c (by rw [e]; decide) (by rw [e]; decide))
    · rw [ps_Follow p c e, ps_Follow q c hq]
      exact ShR.over (follow_sh h e hq c) (no_over c (by rw [e]; decide) (by rw [e]; decide))
    · rw [ps_Stroke p c e, ps_Stroke q c hq]
      exact ShR.over (stroke_sh h (h.ky (by rw [e]; decide)) c) (no_over c (by rw [e]; decide) (by rw [e]; decide))
    · rw [ps_Hex p c e, ps_Hex q c hq]
      exact ShR.over (hex_sh h e hq c) (no_over c (by rw [e]; decide) (by rw [e]; decide))
    · rw [ps_Second p c e, ps_Second q c hq]
      refine ShR.over ?_ (no_over c (by rw [e]; decide) (by rw [e]; decide))
      unfold pSecond
      split
      · exact ShR.ok (sh_mid h (h.ky (by rw [e]; decide)) _ (by decide) (by decide) (by decide))
      · exact ShR.three
    · rw [ps_Letter p c e, ps_Letter q c hq]
      refine ShR.over ?_ (no_over c (by rw [e]; decide) (by rw [e]; decide))
      unfold pLetter
      split
      · exact ShR.ok (sh_number h (h.ky (by rw [e]; decide)) _)
      · exact ShR.three
  · rw [ps_Value p c h1, ps_FirstItem q c h2]
    unfold pFirstItem
    by_cases hc : c = 93
    · subst hc
      exact ShR.no (by unfold pValue; rw [if_neg (by decide), if_neg (by decide), if_neg (by decide), if_neg (by decide), if_neg (by decide), if_neg (by decide), if_neg (by decide), if_neg (by decide), if_neg (by decide), if_neg (by decide)]; show (3 : Nat) ≠ 0; decide)
    · rw [if_neg hc]; exact value_sh h (.inl h1) c
end
end Go.Proofs.YtjfeebbhkolmoaaDoor
