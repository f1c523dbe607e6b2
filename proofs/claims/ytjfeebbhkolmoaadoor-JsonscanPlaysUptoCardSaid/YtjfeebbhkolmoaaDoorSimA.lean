/- Plain law: what the program's Scanner and the document's have in common; the open brackets. -/
import Derived.Test.YtjfeebbhkolmoaaDoorR16J
import Derived.Test.YtjfeebbhkolmoaaDoorJsA
import Derived.Test.YtjfeebbhkolmoaaDoorR16O
import Derived.Test.YtjfeebbhkolmoaaDoorJsB
namespace Go.Proofs.YtjfeebbhkolmoaaDoor
open Go.RowKit
set_option linter.unusedVariables false

theorem blank_same (c : Nat) : R.blankR c = blankB c := by
  unfold R.blankR blankB
  by_cases h1 : c = 32
  · subst h1; decide
  by_cases h2 : c = 10
  · subst h2; decide
  by_cases h3 : c = 13
  · subst h3; decide
  by_cases h4 : c = 9
  · subst h4; decide
  simp [h1, h2, h3, h4]
theorem bnat_add (b : ByteArray) (c : UInt8) : bnat (R.addB b c) = bnat b ++ [c.toNat] := by
  unfold bnat R.addB
  simp [ByteArray.data_append]
theorem bnat_cut (b : ByteArray) : bnat (R.cutB b) = (bnat b).dropLast := by
  unfold R.cutB
  rw [List.dropLast_eq_take, bnat_len]
  unfold bnat
  simp [ByteArray.data_extract]
  rw [List.dropLast_eq_take]
  simp
theorem last_bnat (b : ByteArray) (h : 0 < b.size) : (bnat b).getLast? = some (R.lastB b) := by
  rw [List.getLast?_eq_getElem?, bnat_len, List.getElem?_eq_getElem (by rw [bnat_len]; omega), bnat_at b _ (by omega)]
  unfold R.lastB
  rw [dif_pos h]

/-- the open brackets of both -/
structure Op (p : Sc) (r : R.St) : Prop where
  ho : p.open_ = bnat r.o.open_
  hl : p.open_.length ≤ 128
  hb : ∀ x ∈ p.open_, x = 91 ∨ x = 123

section
variable {p : Sc} {r : R.St}
theorem Op.size (h : Op p r) : r.o.open_.size = p.open_.length := by rw [h.ho, bnat_len]
theorem Op.pos (h : Op p r) (h0 : p.open_ ≠ []) : 0 < r.o.open_.size := by
  rw [h.size]; exact List.length_pos_iff.2 h0
theorem Op.none (h : Op p r) (h0 : p.open_ = []) : r.o.open_.size = 0 := by rw [h.size, h0]; rfl
theorem Op.getLast (h : Op p r) (h0 : p.open_ ≠ []) : p.open_.getLast? = some (R.lastB r.o.open_) := by
  rw [h.ho]; exact last_bnat _ (h.pos h0)
theorem Op.top (h : Op p r) (h0 : p.open_ ≠ []) (c : Nat) : topIs p c = decide (R.lastB r.o.open_ = c) := by
  unfold topIs
  rw [h.getLast h0]
  by_cases hc : R.lastB r.o.open_ = c
  · rw [hc]; simp
  · simp [hc]
theorem Op.last (h : Op p r) (h0 : p.open_ ≠ []) : R.lastB r.o.open_ = 91 ∨ R.lastB r.o.open_ = 123 :=
  h.hb _ (List.mem_of_getLast? (h.getLast h0))
theorem Op.inO (h : Op p r) : R.InO r := by
  refine ⟨by rw [h.size]; exact h.hl, fun h0 => h.last (fun e => ?_)⟩
  have := h.none e
  omega
theorem Op.same (h : Op p r) {p' : Sc} {r' : R.St} (hp : p'.open_ = p.open_) (hr : r'.o.open_ = r.o.open_) : Op p' r' :=
  ⟨by rw [hp, hr]; exact h.ho, by rw [hp]; exact h.hl, by rw [hp]; exact h.hb⟩
theorem Op.push (h : Op p r) (h1 : p.open_.length < 128) (c : UInt8) (hc : c.toNat = 91 ∨ c.toNat = 123) {p' : Sc} {r' : R.St} (hp : p'.open_ = p.open_ ++ [c.toNat]) (hr : r'.o.open_ = R.addB r.o.open_ c) : Op p' r' :=
  ⟨by rw [hp, hr, bnat_add, h.ho], by rw [hp, List.length_append, List.length_singleton]; omega, by
    rw [hp]; intro x hx
    rcases List.mem_append.1 hx with hx | hx
    · exact h.hb x hx
    · rw [List.mem_singleton.1 hx]; exact hc⟩
theorem Op.shut (h : Op p r) {p' : Sc} {r' : R.St} (hp : p'.open_ = p.open_.dropLast) (hr : r'.o.open_ = R.cutB r.o.open_) : Op p' r' :=
  ⟨by rw [hp, hr, bnat_cut, h.ho], by rw [hp, List.length_dropLast]; have := h.hl; omega, by
    rw [hp]; intro x hx; exact h.hb x ((List.dropLast_sublist _).subset hx)⟩
end

def kOf (m : Nat) : Nat := [jValue, jFirstItem, jFirstKey, jKeys, jColon, jAfter, jText, jWord, jMinus, jZero, jDigits, jPoint, jBehind, jSign, jPower, jPowers].getD m 0
def dOf (m : Nat) : Bool := decide (m = 5 ∨ m = 9 ∨ m = 10 ∨ m = 12 ∨ m = 15)
/-- amid a literal -/
def LitD (p : Sc) (r : R.St) : Prop :=
  (r.mode = 1 ∧ p.k = jText ∧ r.high = 0) ∨ (r.mode = 2 ∧ p.k = jStroke ∧ r.high = 0) ∨
    (r.mode = 3 ∧ p.k = jHex ∧ (p.left : Int) = r.left ∧ (p.unit : Int) = r.number ∧ p.pair = decide (0 < r.high)) ∨
    (r.mode = 4 ∧ p.k = jSecond ∧ 0 < r.high) ∨ (r.mode = 5 ∧ p.k = jLetter ∧ 0 < r.high) ∨
    (r.mode = 6 ∧ p.k = jFollow ∧ r.high = 0 ∧ (p.left : Int) = r.left ∧ p.low = r.low ∧ p.high = r.most)
def LitS (p : Sc) (r : R.St) : Prop := R.InS r ∧ LitD p r
structure Sim (p : Sc) (r : R.St) : Prop where
  op : Op p r
  md : r.o.mode ≤ 15
  hk : r.o.mode ≠ 6 → p.k = kOf r.o.mode
  hd : p.done = dOf r.o.mode
  t1 : r.o.mode = 1 → topIs p 91 = true
  t2 : r.o.mode = 2 → topIs p 123 = true
  wd : r.o.mode = 7 → p.rest = r.o.rest ∧ r.o.rest.data.toList ≠ []
  li : r.o.mode = 6 → p.key = r.o.keys ∧ LitS p r
theorem Sim.inR {p : Sc} {r : R.St} (h : Sim p r) : R.InR r := ⟨h.md, h.op.inO, fun hm => (h.li hm).2.1, fun hm => (h.wd hm).2⟩
/-- a mode that says all -/
theorem Sim.of {p : Sc} {r : R.St} (h : Op p r) (m : Nat) (hm : r.o.mode = m) (hk : p.k = kOf m) (hd : p.done = dOf m) (hx : m ≤ 15 ∧ m ≠ 1 ∧ m ≠ 2 ∧ m ≠ 6 ∧ m ≠ 7) : Sim p r := by
  subst hm
  exact ⟨h, hx.1, fun _ => hk, hd, fun e => absurd e hx.2.1, fun e => absurd e hx.2.2.1, fun e => absurd e hx.2.2.2.2, fun e => absurd e hx.2.2.2.1⟩
/-- both after one byte -/
def Res (a : Sc × Nat) (b : R.St × Nat) : Prop := a.2 = b.2 ∧ Op a.1 b.1 ∧ (a.2 = 0 → Sim a.1 b.1)
theorem Res.ok {p : Sc} {r : R.St} (h : Sim p r) : Res (p, 0) (r, 0) := ⟨rfl, h.op, fun _ => h⟩
theorem Res.no {p : Sc} {r : R.St} (h : Op p r) (c : Nat) (hc : c ≠ 0) : Res (p, c) (r, c) := ⟨rfl, h, fun e => absurd e hc⟩
theorem Res.three {p : Sc} {r : R.St} (h : Op p r) : Res (p, 3) (r, 3) := Res.no h 3 (by decide)

theorem closes_true {r : R.St} {c : Nat} (h : 0 < r.o.open_.size ∧ (R.lastB r.o.open_ = 91 → c = 93) ∧ (R.lastB r.o.open_ = 123 → c = 125)) : R.pCloses r c = (R.setM (R.setO r (R.cutB r.o.open_)) 5, true) := if_pos h
theorem closes_false {r : R.St} {c : Nat} (h : ¬ (0 < r.o.open_.size ∧ (R.lastB r.o.open_ = 91 → c = 93) ∧ (R.lastB r.o.open_ = 123 → c = 125))) : R.pCloses r c = (r, false) := if_neg h

theorem pSign5 (r : R.St) (c : Nat) (hm : r.o.mode = 5) : R.pSign r c = if (c = 93 ∨ c = 125) ∧ (R.pCloses r c).2 = true then ((R.pCloses r c).1, 0) else if c = 44 ∧ 0 < r.o.open_.size then (R.setM r (if R.lastB r.o.open_ = 123 then 3 else 0), 0) else (r, 3) := by
  unfold R.pSign
  simp [hm]
theorem sim_after (p : Sc) (r : R.St) (c : Nat) (h : Op p r) (hm : r.o.mode = 5) : Res (pAfter p c) (R.rBetween r c) := by
  unfold pAfter R.rBetween
  rw [blank_same]
  by_cases hb : blankB c = true
  · rw [if_pos hb, if_pos hb]
    exact Res.ok (Sim.of (h.same rfl rfl) 5 hm rfl rfl (by decide))
  rw [if_neg hb, if_neg hb, pSign5 r c hm]
  by_cases h0 : p.open_ = []
  · have h1 := h.none h0
    rw [if_pos h0, closes_false (fun e => by omega), if_neg (by simp), if_neg (by omega)]
    exact Res.three h
  rw [if_neg h0]
  have h1 := h.pos h0
  have h2 := h.last h0
  have t9 := h.top h0 91
  have t1 := h.top h0 123
  by_cases hc : c = 44
  · rw [if_pos hc, if_neg (show ¬ ((c = 93 ∨ c = 125) ∧ (R.pCloses r c).2 = true) from fun e => by have := e.1; omega), if_pos (show c = 44 ∧ 0 < r.o.open_.size from ⟨hc, h1⟩)]
    rcases h2 with h2 | h2
    · rw [if_pos (by rw [t9, h2]; rfl), if_neg (by omega)]
      exact Res.ok (Sim.of (h.same rfl rfl) 0 rfl rfl rfl (by decide))
    · rw [if_neg (by rw [t9, h2]; decide), if_pos h2]
      exact Res.ok (Sim.of (h.same rfl rfl) 3 rfl rfl rfl (by decide))
  rw [if_neg hc]
  by_cases hq : (c = 93 ∧ R.lastB r.o.open_ = 91) ∨ (c = 125 ∧ R.lastB r.o.open_ = 123)
  · rw [if_pos (by rcases hq with ⟨k1, k2⟩ | ⟨k1, k2⟩ <;> simp [t9, t1, k1, k2]), closes_true ⟨h1, by omega, by omega⟩, if_pos ⟨by omega, rfl⟩]
    exact Res.ok (Sim.of (h.shut rfl rfl) 5 rfl rfl rfl (by decide))
  · rw [if_neg (by rw [t9, t1]; simpa using hq), closes_false (fun e => by omega), if_neg (by simp), if_neg (by omega)]
    exact Res.three h
end Go.Proofs.YtjfeebbhkolmoaaDoor

namespace Go.Proofs.YtjfeebbhkolmoaaDoor
open Go.RowKit
set_option linter.unusedVariables false

theorem not_blank {c : Nat} (h : ¬ blankB c = true) : c ≠ 32 ∧ c ≠ 10 ∧ c ≠ 13 ∧ c ≠ 9 := by
  unfold blankB at h
  simp at h
  omega
theorem digit_is (c : Nat) : (digitB c = true) ↔ (48 ≤ c ∧ c ≤ 57) := by
  unfold digitB
  simp
theorem Sim.word {p : Sc} {r : R.St} (h : Op p r) (b : ByteArray) (hb : b.data.toList ≠ []) : Sim (sTo (sRest p b) jWord false) (R.setW (R.setM r 7) b) :=
  ⟨h.same rfl rfl, (by show 7 ≤ 15; decide), fun _ => rfl, rfl, fun e => absurd (show (7 : Nat) = 1 from e) (by decide), fun e => absurd (show (7 : Nat) = 2 from e) (by decide), fun _ => ⟨rfl, hb⟩, fun e => absurd (show (7 : Nat) = 6 from e) (by decide)⟩
theorem Sim.lit {p : Sc} {r : R.St} (h : Op p r) (b : Bool) : Sim (sTo (sKey p b) jText false) (R.pLit r b) :=
  ⟨h.same rfl rfl, (by show 6 ≤ 15; decide), fun e => absurd (show (6 : Nat) = 6 from rfl) e, rfl, fun e => absurd (show (6 : Nat) = 1 from e) (by decide), fun e => absurd (show (6 : Nat) = 2 from e) (by decide), fun e => absurd (show (6 : Nat) = 7 from e) (by decide), fun _ => ⟨rfl, ⟨.inr (.inl rfl), .inl rfl, fun e => absurd (show (1 : Int) = 3 from e) (by decide), fun e => absurd (show (1 : Int) = 6 from e) (by decide)⟩, .inl ⟨rfl, rfl, rfl⟩⟩⟩
theorem Sim.open91 {p : Sc} {r : R.St} (h : Op p r) (h1 : p.open_.length < 128) : Sim (sTo (sOpen p 91) jFirstItem false) (R.setM (R.setO r (R.addB r.o.open_ 91)) 1) :=
  ⟨h.push h1 91 (.inl rfl) rfl rfl, (by show 1 ≤ 15; decide), fun _ => rfl, rfl, fun _ => (by show ((p.open_ ++ [91]).getLast? == some 91) = true; simp), fun e => absurd (show (1 : Nat) = 2 from e) (by decide), fun e => absurd (show (1 : Nat) = 7 from e) (by decide), fun e => absurd (show (1 : Nat) = 6 from e) (by decide)⟩
theorem Sim.open123 {p : Sc} {r : R.St} (h : Op p r) (h1 : p.open_.length < 128) : Sim (sTo (sOpen p 123) jFirstKey false) (R.setM (R.setO r (R.addB r.o.open_ 123)) 2) :=
  ⟨h.push h1 123 (.inr rfl) rfl rfl, (by show 2 ≤ 15; decide), fun _ => rfl, rfl, fun e => absurd (show (2 : Nat) = 1 from e) (by decide), fun _ => (by show ((p.open_ ++ [123]).getLast? == some 123) = true; simp), fun e => absurd (show (2 : Nat) = 7 from e) (by decide), fun e => absurd (show (2 : Nat) = 6 from e) (by decide)⟩

/-- a value begins -/
theorem sim_value1 (p : Sc) (r : R.St) (c : Nat) (h : Op p r) (hb : ¬ blankB c = true) : Res (pValue p c) (R.pValue r c) := by
  unfold pValue R.pValue
  rw [if_neg hb]
  by_cases h1 : c = 91
  · rw [if_pos h1, if_pos h1, h.size]
    by_cases hl : p.open_.length = 128
    · rw [if_pos hl, if_pos hl]; exact Res.no h 5 (by decide)
    · rw [if_neg hl, if_neg hl]; exact Res.ok (Sim.open91 h (by have := h.hl; omega))
  rw [if_neg h1, if_neg h1]
  by_cases h2 : c = 123
  · rw [if_pos h2, if_pos h2, h.size]
    by_cases hl : p.open_.length = 128
    · rw [if_pos hl, if_pos hl]; exact Res.no h 5 (by decide)
    · rw [if_neg hl, if_neg hl]; exact Res.ok (Sim.open123 h (by have := h.hl; omega))
  rw [if_neg h2, if_neg h2]
  by_cases h3 : c = 34
  · rw [if_pos h3, if_pos h3]; exact Res.ok (Sim.lit h false)
  rw [if_neg h3, if_neg h3]
  by_cases h4 : c = 110
  · rw [if_neg (by omega), if_neg (by omega), if_neg (by rw [digit_is]; omega), if_pos h4, if_pos h4]; exact Res.ok (Sim.word h strU (by decide))
  by_cases h5 : c = 116
  · rw [if_neg (by omega), if_neg (by omega), if_neg (by rw [digit_is]; omega), if_neg h4, if_pos h5, if_neg h4, if_pos h5]; exact Res.ok (Sim.word h strR (by decide))
  by_cases h6 : c = 102
  · rw [if_neg (by omega), if_neg (by omega), if_neg (by rw [digit_is]; omega), if_neg h4, if_neg h5, if_pos h6, if_neg h4, if_neg h5, if_pos h6]; exact Res.ok (Sim.word h strA (by decide))
  rw [if_neg h4, if_neg h5, if_neg h6, if_neg h4, if_neg h5, if_neg h6]
  by_cases h7 : c = 45
  · rw [if_pos h7, if_pos h7]; exact Res.ok (Sim.of (h.same rfl rfl) 8 rfl rfl rfl (by decide))
  rw [if_neg h7, if_neg h7]
  by_cases h8 : c = 48
  · rw [if_pos h8, if_pos h8]; exact Res.ok (Sim.of (h.same rfl rfl) 9 rfl rfl rfl (by decide))
  rw [if_neg h8, if_neg h8]
  by_cases h9 : 49 ≤ c ∧ c ≤ 57
  · rw [if_pos ((digit_is c).2 (by omega)), if_pos h9]; exact Res.ok (Sim.of (h.same rfl rfl) 10 rfl rfl rfl (by decide))
  rw [if_neg (by rw [digit_is]; omega), if_neg h9]
  exact Res.three h
theorem pSign0 (r : R.St) (c : Nat) (hm : r.o.mode = 0) : R.pSign r c = R.pValue r c := by
  unfold R.pSign
  simp [hm]
theorem pSign1 (r : R.St) (c : Nat) (hm : r.o.mode = 1) : R.pSign r c = if (c = 93 ∨ c = 125) ∧ (R.pCloses r c).2 = true then ((R.pCloses r c).1, 0) else R.pValue r c := by
  unfold R.pSign
  simp [hm]
theorem pSign2 (r : R.St) (c : Nat) (hm : r.o.mode = 2) : R.pSign r c = if (c = 93 ∨ c = 125) ∧ (R.pCloses r c).2 = true then ((R.pCloses r c).1, 0) else if c = 34 then (R.pLit r true, 0) else (r, 3) := by
  unfold R.pSign
  simp [hm]
theorem pSign3 (r : R.St) (c : Nat) (hm : r.o.mode = 3) : R.pSign r c = if c = 34 then (R.pLit r true, 0) else (r, 3) := by
  unfold R.pSign
  simp [hm]
theorem pSign4 (r : R.St) (c : Nat) (hm : r.o.mode = 4) : R.pSign r c = if c = 58 then (R.setM r 0, 0) else (r, 3) := by
  unfold R.pSign
  simp [hm]

theorem sim_value (p : Sc) (r : R.St) (c : Nat) (h : Sim p r) (hm : r.o.mode = 0) : Res (pValue p c) (R.rBetween r c) := by
  unfold R.rBetween
  rw [blank_same]
  by_cases hb : blankB c = true
  · rw [if_pos hb, show pValue p c = (p, 0) from if_pos hb]; exact Res.ok h
  · rw [if_neg hb, pSign0 r c hm]; exact sim_value1 p r c h.op hb
theorem top_ne {p : Sc} {c : Nat} (h : topIs p c = true) : p.open_ ≠ [] := by
  intro e
  unfold topIs at h
  rw [e] at h
  simp at h
theorem sim_firstItem (p : Sc) (r : R.St) (c : Nat) (h : Sim p r) (hm : r.o.mode = 1) : Res (pFirstItem p c) (R.rBetween r c) := by
  have ht := h.t1 hm
  have h0 := top_ne ht
  rw [h.op.top h0] at ht
  have ht := of_decide_eq_true ht
  have h1 := h.op.pos h0
  unfold R.rBetween pFirstItem
  rw [blank_same]
  by_cases hb : blankB c = true
  · rw [if_pos hb, if_neg (show ¬ c = 93 from by intro e; subst e; revert hb; decide), show pValue p c = (p, 0) from if_pos hb]; exact Res.ok h
  rw [if_neg hb, pSign1 r c hm]
  by_cases hc : c = 93
  · subst hc
    rw [if_pos rfl, closes_true ⟨h1, fun _ => rfl, fun e => by omega⟩, if_pos (show ((93 : Nat) = 93 ∨ (93 : Nat) = 125) ∧ (R.setM (R.setO r (R.cutB r.o.open_)) 5, true).2 = true from ⟨.inl rfl, rfl⟩)]
    unfold pAfter
    rw [if_neg hb, if_neg h0, if_neg (by decide), if_pos (.inl ⟨rfl, by rw [h.op.top h0, ht]; rfl⟩)]
    exact Res.ok (Sim.of (h.op.shut rfl rfl) 5 rfl rfl rfl (by decide))
  · rw [if_neg hc, closes_false (fun e => hc (e.2.1 ht)), if_neg (show ¬ ((c = 93 ∨ c = 125) ∧ (r, false).2 = true) from by simp)]
    exact sim_value1 p r c h.op hb
theorem sim_firstKey (p : Sc) (r : R.St) (c : Nat) (h : Sim p r) (hm : r.o.mode = 2) : Res (pFirstKey p c) (R.rBetween r c) := by
  have ht := h.t2 hm
  have h0 := top_ne ht
  rw [h.op.top h0] at ht
  have ht := of_decide_eq_true ht
  have h1 := h.op.pos h0
  unfold R.rBetween pFirstKey pKeys
  rw [blank_same]
  by_cases hb : blankB c = true
  · rw [if_pos hb, if_neg (show ¬ c = 125 from by intro e; subst e; revert hb; decide), if_pos hb]; exact Res.ok h
  rw [if_neg hb, pSign2 r c hm]
  by_cases hc : c = 125
  · subst hc
    rw [if_pos rfl, closes_true ⟨h1, fun e => by omega, fun _ => rfl⟩, if_pos (show ((125 : Nat) = 93 ∨ (125 : Nat) = 125) ∧ (R.setM (R.setO r (R.cutB r.o.open_)) 5, true).2 = true from ⟨.inr rfl, rfl⟩)]
    unfold pAfter
    rw [if_neg hb, if_neg h0, if_neg (by decide), if_pos (.inr ⟨rfl, by rw [h.op.top h0, ht]; rfl⟩)]
    exact Res.ok (Sim.of (h.op.shut rfl rfl) 5 rfl rfl rfl (by decide))
  · rw [if_neg hc, closes_false (fun e => hc (e.2.2 ht)), if_neg (show ¬ ((c = 93 ∨ c = 125) ∧ (r, false).2 = true) from by simp), if_neg hb]
    by_cases hq : c = 34
    · rw [if_pos hq, if_pos hq]; exact Res.ok (Sim.lit h.op true)
    · rw [if_neg hq, if_neg hq]; exact Res.three h.op
theorem sim_keys (p : Sc) (r : R.St) (c : Nat) (h : Sim p r) (hm : r.o.mode = 3) : Res (pKeys p c) (R.rBetween r c) := by
  unfold R.rBetween pKeys
  rw [blank_same]
  by_cases hb : blankB c = true
  · rw [if_pos hb, if_pos hb]; exact Res.ok h
  rw [if_neg hb, if_neg hb, pSign3 r c hm]
  by_cases hq : c = 34
  · rw [if_pos hq, if_pos hq]; exact Res.ok (Sim.lit h.op true)
  · rw [if_neg hq, if_neg hq]; exact Res.three h.op
theorem sim_colon (p : Sc) (r : R.St) (c : Nat) (h : Sim p r) (hm : r.o.mode = 4) : Res (pColon p c) (R.rBetween r c) := by
  unfold R.rBetween pColon
  rw [blank_same]
  by_cases hb : blankB c = true
  · rw [if_pos hb, if_pos hb]; exact Res.ok h
  rw [if_neg hb, if_neg hb, pSign4 r c hm]
  by_cases hq : c = 58
  · rw [if_pos hq, if_pos hq]; exact Res.ok (Sim.of (h.op.same rfl rfl) 0 rfl rfl rfl (by decide))
  · rw [if_neg hq, if_neg hq]; exact Res.three h.op
theorem sim_word (p : Sc) (r : R.St) (c : Nat) (h : Sim p r) (hm : r.o.mode = 7) : Res (pWord p c) (R.rWord r c) := by
  obtain ⟨h1, h2⟩ := h.wd hm
  have hk := h.hk (by omega)
  have hd := h.hd
  rw [hm] at hk hd
  unfold pWord R.rWord
  rw [h1]
  rcases hl : r.o.rest.data.toList with _ | ⟨x, l⟩
  · exact Res.three h.op
  simp only []
  by_cases hc : c = x.toNat
  · rw [if_pos hc, if_pos hc]
    by_cases hn : l = []
    · rw [if_pos hn, if_pos hn]; exact Res.ok (Sim.of (h.op.same rfl rfl) 5 rfl rfl rfl (by decide))
    · rw [if_neg hn, if_neg hn]
      exact Res.ok ⟨h.op.same rfl rfl, h.md, fun _ => (by show p.k = kOf r.o.mode; rw [hm]; exact hk), (by show p.done = dOf r.o.mode; rw [hm]; exact hd), fun e => absurd (hm.symm.trans e) (by decide), fun e => absurd (hm.symm.trans e) (by decide), fun _ => ⟨rfl, hn⟩, fun e => absurd (hm.symm.trans e) (by decide)⟩
  · rw [if_neg hc, if_neg hc]; exact Res.three h.op

/-- a number ends: as behind any value -/
theorem sim_end (p : Sc) (r : R.St) (c : Nat) (h : Sim p r) (hn : R.pNumber r c = (r, false, true)) : Res (pAfter p c) (R.rNum r c) := by
  unfold R.rNum
  rw [hn]
  simp only [if_pos]
  exact sim_after p (R.setM r 5) c (h.op.same rfl rfl) rfl
theorem sim_go (p p' : Sc) (r : R.St) (c m : Nat) (h : Sim p r) (hn : R.pNumber r c = (R.setM r m, true, false)) (ho : p'.open_ = p.open_) (hk : p'.k = kOf m) (hd : p'.done = dOf m) (hx : m ≤ 15 ∧ m ≠ 1 ∧ m ≠ 2 ∧ m ≠ 6 ∧ m ≠ 7) : Res (p', 0) (R.rNum r c) := by
  unfold R.rNum
  rw [hn]
  simp only [if_pos, Bool.false_eq_true, if_false]
  exact Res.ok (Sim.of (h.op.same ho rfl) m rfl hk hd hx)
theorem sim_stay (p : Sc) (r : R.St) (c : Nat) (h : Sim p r) (hn : R.pNumber r c = (r, true, false)) : Res (p, 0) (R.rNum r c) := by
  unfold R.rNum
  rw [hn]
  simp only [if_pos, Bool.false_eq_true, if_false]
  exact Res.ok h
theorem sim_bad (p : Sc) (r : R.St) (c : Nat) (h : Sim p r) (hn : R.pNumber r c = (r, false, false)) : Res (p, 3) (R.rNum r c) := by
  unfold R.rNum
  rw [hn]
  simp only [Bool.false_eq_true, if_false]
  exact Res.three h.op
theorem sim_minus (p : Sc) (r : R.St) (c : Nat) (h : Sim p r) (hm : r.o.mode = 8) : Res (pMinus p c) (R.rNum r c) := by
  unfold pMinus
  by_cases h1 : c = 48
  · rw [if_pos h1]; exact sim_go p _ r c 9 h (by unfold R.pNumber; simp [hm, h1]) rfl rfl rfl (by decide)
  rw [if_neg h1]
  by_cases h2 : digitB c = true
  · rw [if_pos h2]; rw [digit_is] at h2; exact sim_go p _ r c 10 h (by unfold R.pNumber; simp [hm, h1, h2]) rfl rfl rfl (by decide)
  · rw [if_neg h2]; rw [digit_is] at h2; exact sim_bad p r c h (by unfold R.pNumber; simp [hm, h1]; omega)
theorem sim_fraction (p : Sc) (r : R.St) (c : Nat) (h : Sim p r) (hm : r.o.mode = 9 ∨ r.o.mode = 10 ∨ r.o.mode = 12) (h46 : c ≠ 46 ∨ r.o.mode = 12) (hd : ¬ (48 ≤ c ∧ c ≤ 57) ∨ r.o.mode = 9) : Res (pFraction p c) (R.rNum r c) := by
  unfold pFraction
  by_cases h1 : c = 101 ∨ c = 69
  · rw [if_pos h1]
    refine sim_go p _ r c 13 h ?_ rfl rfl rfl (by decide)
    unfold R.pNumber
    rw [if_neg (by omega), if_neg (by omega), if_neg (by omega), if_neg (by omega), if_neg (by omega), if_pos ⟨hm, h1⟩]
  · rw [if_neg h1]
    refine sim_end p r c h ?_
    unfold R.pNumber
    rw [if_neg (by omega), if_neg (by omega), if_neg (by omega), if_neg (by omega), if_neg (by omega), if_neg (by omega), if_neg (by omega), if_neg (by omega), decide_eq_true (by omega)]
theorem sim_zero0 (p : Sc) (r : R.St) (c : Nat) (h : Sim p r) (hm : r.o.mode = 9 ∨ r.o.mode = 10) (hd : ¬ (48 ≤ c ∧ c ≤ 57) ∨ r.o.mode = 9) : Res (pZero p c) (R.rNum r c) := by
  unfold pZero
  by_cases h1 : c = 46
  · rw [if_pos h1]
    refine sim_go p _ r c 11 h ?_ rfl rfl rfl (by decide)
    unfold R.pNumber
    rw [if_neg (by omega), if_neg (by omega), if_neg (by omega), if_pos ⟨hm, h1⟩]
  · rw [if_neg h1]; exact sim_fraction p r c h (by omega) (.inl h1) hd
theorem sim_digits (p : Sc) (r : R.St) (c : Nat) (h : Sim p r) (hm : r.o.mode = 10) : Res (pDigits p c) (R.rNum r c) := by
  unfold pDigits
  by_cases h1 : digitB c = true
  · rw [if_pos h1]; rw [digit_is] at h1
    refine sim_stay p r c h ?_
    unfold R.pNumber
    rw [if_neg (by omega), if_neg (by omega), if_pos (by omega)]
  · rw [if_neg h1]; rw [digit_is] at h1; exact sim_zero0 p r c h (.inr hm) (.inl h1)
theorem sim_point (p : Sc) (r : R.St) (c : Nat) (h : Sim p r) (hm : r.o.mode = 11) : Res (pPoint p c) (R.rNum r c) := by
  unfold pPoint
  by_cases h1 : digitB c = true
  · rw [if_pos h1]; rw [digit_is] at h1
    refine sim_go p _ r c 12 h ?_ rfl rfl rfl (by decide)
    unfold R.pNumber
    rw [if_neg (by omega), if_neg (by omega), if_neg (by omega), if_neg (by omega), if_pos (by omega)]
  · rw [if_neg h1]; rw [digit_is] at h1
    refine sim_bad p r c h ?_
    unfold R.pNumber
    rw [if_neg (by omega), if_neg (by omega), if_neg (by omega), if_neg (by omega), if_neg (by omega), if_neg (by omega), if_neg (by omega), if_neg (by omega), decide_eq_false (by omega)]
theorem sim_behind (p : Sc) (r : R.St) (c : Nat) (h : Sim p r) (hm : r.o.mode = 12) : Res (pBehind p c) (R.rNum r c) := by
  unfold pBehind
  by_cases h1 : digitB c = true
  · rw [if_pos h1]; rw [digit_is] at h1
    refine sim_stay p r c h ?_
    unfold R.pNumber
    rw [if_neg (by omega), if_neg (by omega), if_pos (by omega)]
  · rw [if_neg h1]; rw [digit_is] at h1; exact sim_fraction p r c h (by omega) (.inr hm) (.inl h1)
theorem sim_power (p : Sc) (r : R.St) (c : Nat) (h : Sim p r) (hm : r.o.mode = 14 ∨ r.o.mode = 13 ∧ c ≠ 43 ∧ c ≠ 45) : Res (pPower p c) (R.rNum r c) := by
  unfold pPower
  by_cases h1 : digitB c = true
  · rw [if_pos h1]; rw [digit_is] at h1
    refine sim_go p _ r c 15 h ?_ rfl rfl rfl (by decide)
    unfold R.pNumber
    rw [if_neg (by omega), if_neg (by omega), if_neg (by omega), if_neg (by omega), if_neg (by omega), if_neg (by omega), if_neg (by omega), if_pos (by omega)]
  · rw [if_neg h1]; rw [digit_is] at h1
    refine sim_bad p r c h ?_
    unfold R.pNumber
    rw [if_neg (by omega), if_neg (by omega), if_neg (by omega), if_neg (by omega), if_neg (by omega), if_neg (by omega), if_neg (by omega), if_neg (by omega), decide_eq_false (by omega)]
theorem sim_sign (p : Sc) (r : R.St) (c : Nat) (h : Sim p r) (hm : r.o.mode = 13) : Res (pSign p c) (R.rNum r c) := by
  unfold pSign
  by_cases h1 : c = 43 ∨ c = 45
  · rw [if_pos h1]
    refine sim_go p _ r c 14 h ?_ rfl rfl rfl (by decide)
    unfold R.pNumber
    rw [if_neg (by omega), if_neg (by omega), if_neg (by omega), if_neg (by omega), if_neg (by omega), if_neg (by omega), if_pos (by omega)]
  · rw [if_neg h1]; exact sim_power p r c h (.inr ⟨hm, by omega⟩)
theorem sim_powers (p : Sc) (r : R.St) (c : Nat) (h : Sim p r) (hm : r.o.mode = 15) : Res (pPowers p c) (R.rNum r c) := by
  unfold pPowers
  by_cases h1 : digitB c = true
  · rw [if_pos h1]; rw [digit_is] at h1
    refine sim_stay p r c h ?_
    unfold R.pNumber
    rw [if_neg (by omega), if_neg (by omega), if_pos (by omega)]
  · rw [if_neg h1]; rw [digit_is] at h1
    refine sim_end p r c h ?_
    unfold R.pNumber
    rw [if_neg (by omega), if_neg (by omega), if_neg (by omega), if_neg (by omega), if_neg (by omega), if_neg (by omega), if_neg (by omega), if_neg (by omega), decide_eq_true (by omega)]
end Go.Proofs.YtjfeebbhkolmoaaDoor

namespace Go.Proofs.YtjfeebbhkolmoaaDoor
open Go.RowKit
set_option linter.unusedVariables false

theorem hex_same (c : Nat) : R.digZ c = if hexD c = 16 then -1 else (hexD c : Int) := by
  unfold R.digZ hexD
  repeat' split
  all_goals omega

theorem lit_no {p p' : Sc} {r r' : R.St} {c : Nat} (h : Sim p r) (hr : R.stepF r c = (r', false)) (hp : p'.open_ = p.open_) : Res (p', 3) (R.rLit r c) := by
  have ho := R.stepF_o r c
  unfold R.rLit
  rw [hr] at ho ⊢
  simp only [Bool.false_eq_true, if_false] at ho ⊢
  exact Res.three (h.op.same hp (by rw [ho]))
theorem lit_go {p p' : Sc} {r r' : R.St} {c : Nat} (h : Sim p r) (hm : r.o.mode = 6) (hr : R.stepF r c = (r', true)) (h7 : r'.mode ≠ 7) (hp : p'.open_ = p.open_) (hd : p'.done = false) (hk : p'.key = p.key) (hl : LitD p' r') : Res (p', 0) (R.rLit r c) := by
  have ho := R.stepF_o r c
  have hi := R.step_ok r c (h.li hm).2.1 (by rw [hr])
  unfold R.rLit
  rw [hr] at ho hi ⊢
  simp only [if_true, if_neg h7] at ho hi ⊢
  have hm' : r'.o.mode = 6 := by rw [ho]; exact hm
  refine Res.ok ⟨h.op.same hp (by rw [ho]), by omega, fun e => absurd hm' e, by rw [hm', hd]; rfl, fun e => by omega, fun e => by omega, fun e => by omega, fun _ => ⟨by rw [hk, ho]; exact (h.li hm).1, hi.1, hl⟩⟩
theorem lit_end {p p' : Sc} {r r' : R.St} {c : Nat} (h : Sim p r) (hm : r.o.mode = 6) (hr : R.stepF r c = (r', true)) (h7 : r'.mode = 7) (hp : p' = if p.key = true then sTo p jColon false else sTo p jAfter true) : Res (p', 0) (R.rLit r c) := by
  have ho := R.stepF_o r c
  have hk := (h.li hm).1
  unfold R.rLit
  rw [hr] at ho ⊢
  simp only [if_true, if_pos h7] at ho ⊢
  rw [ho, ← hk]
  subst hp
  by_cases hkey : p.key = true
  · rw [if_pos hkey, if_pos hkey]; exact Res.ok (Sim.of (h.op.same rfl (by show r'.o.open_ = _; rw [ho])) 4 rfl rfl rfl (by decide))
  · rw [if_neg hkey, if_neg hkey]; exact Res.ok (Sim.of (h.op.same rfl (by show r'.o.open_ = _; rw [ho])) 5 rfl rfl rfl (by decide))

theorem sim_text (p : Sc) (r : R.St) (c : Nat) (h : Sim p r) (hm : r.o.mode = 6) (m : r.mode = 1) (hh : r.high = 0) (hk : p.k = jText) : Res (pText p c) (R.rLit r c) := by
  have hs : R.stepF r c = R.inside r c := by unfold R.stepF; rw [if_neg (by omega), if_pos m]
  have hd : p.done = false := by have := h.hd; rw [hm] at this; exact this
  unfold R.inside at hs
  unfold pText
  by_cases h1 : c = 34
  · rw [if_pos h1] at hs ⊢
    exact (show Res ((if p.key = true then (sTo p jColon false, 0) else (sTo p jAfter true, 0)) : Sc × Nat) (R.rLit r c) from by
      have := lit_end h hm hs rfl rfl
      by_cases hkey : p.key = true
      · rw [if_pos hkey] at this ⊢; exact this
      · rw [if_neg hkey] at this ⊢; exact this)
  rw [if_neg h1] at hs ⊢
  by_cases h2 : c = 92
  · rw [if_pos h2] at hs ⊢
    exact lit_go h hm hs (by show (2 : Int) ≠ 7; decide) rfl rfl rfl (.inr (.inl ⟨rfl, rfl, hh⟩))
  rw [if_neg h2] at hs ⊢
  by_cases h3 : c < 32
  · rw [if_pos (by omega)] at hs
    rw [if_pos h3]
    exact lit_no h hs rfl
  rw [if_neg h3]
  by_cases h4 : c < 128
  · rw [if_neg (by omega), if_pos h4] at hs
    rw [if_pos h4]
    exact lit_go h hm hs (by show r.mode ≠ 7; omega) rfl hd rfl (.inl ⟨m, hk, hh⟩)
  rw [if_neg h4]
  by_cases h5 : c < 194 ∨ 244 < c
  · rw [if_pos (by omega)] at hs
    rw [if_pos h5]
    exact lit_no h hs rfl
  · rw [if_neg (by omega), if_neg h4] at hs
    rw [if_neg h5]
    refine lit_go h hm hs (by show (6 : Int) ≠ 7; decide) rfl rfl rfl (.inr (.inr (.inr (.inr (.inr ⟨rfl, rfl, hh, ?_, rfl, rfl⟩)))))
    show (((if c < 224 then 1 else if c < 240 then 2 else 3 : Nat)) : Int) = if 240 ≤ c then 3 else if 224 ≤ c then 2 else 1
    repeat' split
    all_goals omega
theorem sim_stroke (p : Sc) (r : R.St) (c : Nat) (h : Sim p r) (hm : r.o.mode = 6) (m : r.mode = 2) (hh : r.high = 0) : Res (pStroke p c) (R.rLit r c) := by
  have hs : R.stepF r c = R.strokeStep r c := by unfold R.stepF; rw [if_neg (by omega), if_neg (by omega), if_pos m]
  unfold R.strokeStep at hs
  unfold pStroke
  by_cases h1 : c = 34 ∨ c = 92 ∨ c = 47 ∨ c = 98 ∨ c = 102 ∨ c = 110 ∨ c = 114 ∨ c = 116
  · rw [if_pos h1]
    obtain ⟨x, hx⟩ : ∃ x, R.letM c = some x := by
      rcases h1 with h1 | h1 | h1 | h1 | h1 | h1 | h1 | h1 <;> (subst h1; exact ⟨_, rfl⟩)
    rw [hx] at hs
    exact lit_go h hm hs (by show (1 : Int) ≠ 7; decide) rfl rfl rfl (.inl ⟨rfl, rfl, hh⟩)
  · rw [if_neg h1]
    have hx : R.letM c = none := by
      unfold R.letM
      rw [if_neg (by omega), if_neg (by omega), if_neg (by omega), if_neg (by omega), if_neg (by omega), if_neg (by omega), if_neg (by omega), if_neg (by omega)]
    rw [hx] at hs
    by_cases h2 : c = 117
    · rw [if_pos h2]
      have hs : R.stepF r c = ({ r with mode := 3, left := 4, number := 0 }, true) := by rw [hs, h2]; rfl
      exact lit_go h hm hs (by show (3 : Int) ≠ 7; decide) rfl rfl rfl (.inr (.inr (.inl ⟨rfl, rfl, rfl, rfl, (by show false = decide (0 < r.high); rw [hh]; rfl)⟩)))
    · rw [if_neg h2]
      have hs : R.stepF r c = ({ r with mode := 3, left := 4, number := 0 }, false) := by rw [hs, decide_eq_false h2]
      exact lit_no h hs rfl
theorem sim_second (p : Sc) (r : R.St) (c : Nat) (h : Sim p r) (hm : r.o.mode = 6) (m : r.mode = 4) (hh : 0 < r.high) : Res (pSecond p c) (R.rLit r c) := by
  have hs : R.stepF r c = ({ r with mode := 5 }, decide (c = 92)) := by unfold R.stepF; rw [if_neg (by omega), if_neg (by omega), if_neg (by omega), if_neg (by omega), if_pos m]
  unfold pSecond
  by_cases h2 : c = 92
  · rw [if_pos h2]
    rw [decide_eq_true h2] at hs
    exact lit_go h hm hs (by show (5 : Int) ≠ 7; decide) rfl rfl rfl (.inr (.inr (.inr (.inr (.inl ⟨rfl, rfl, hh⟩)))))
  · rw [if_neg h2]
    rw [decide_eq_false h2] at hs
    exact lit_no h hs rfl
theorem sim_letter (p : Sc) (r : R.St) (c : Nat) (h : Sim p r) (hm : r.o.mode = 6) (m : r.mode = 5) (hh : 0 < r.high) : Res (pLetter p c) (R.rLit r c) := by
  have hs : R.stepF r c = ({ r with mode := 3, left := 4, number := 0 }, decide (c = 117)) := by unfold R.stepF; rw [if_neg (by omega), if_neg (by omega), if_neg (by omega), if_neg (by omega), if_neg (by omega), if_pos m]
  unfold pLetter
  by_cases h2 : c = 117
  · rw [if_pos h2]
    rw [decide_eq_true h2] at hs
    exact lit_go h hm hs (by show (3 : Int) ≠ 7; decide) rfl rfl rfl (.inr (.inr (.inl ⟨rfl, rfl, rfl, rfl, (by show true = decide (0 < r.high); rw [decide_eq_true hh])⟩)))
  · rw [if_neg h2]
    rw [decide_eq_false h2] at hs
    exact lit_no h hs rfl
theorem sim_follow (p : Sc) (r : R.St) (c : Nat) (h : Sim p r) (hm : r.o.mode = 6) (m : r.mode = 6) (hh : r.high = 0) (hk : p.k = jFollow) (hl : (p.left : Int) = r.left) (hlo : p.low = r.low) (hhi : p.high = r.most) : Res (pFollow p c) (R.rLit r c) := by
  have hs : R.stepF r c = R.bytesStep r c := by unfold R.stepF; rw [if_neg (by omega), if_neg (by omega), if_neg (by omega), if_neg (by omega), if_neg (by omega), if_neg (by omega), if_pos m]
  have hd : p.done = false := by have := h.hd; rw [hm] at this; exact this
  have h6 := (h.li hm).2.1.2.2.2 m
  unfold R.bytesStep at hs
  unfold pFollow
  rw [hlo, hhi]
  by_cases h1 : c < r.low ∨ r.most < c
  · rw [if_pos h1] at hs ⊢
    exact lit_no h hs rfl
  rw [if_neg h1] at hs ⊢
  by_cases h2 : p.left = 1
  · rw [if_pos h2]
    rw [if_pos (by omega)] at hs
    exact lit_go h hm hs (by show (1 : Int) ≠ 7; decide) rfl rfl rfl (.inl ⟨rfl, rfl, hh⟩)
  · rw [if_neg h2]
    rw [if_neg (by omega)] at hs
    exact lit_go h hm hs (by show r.mode ≠ 7; omega) rfl hd rfl (.inr (.inr (.inr (.inr (.inr ⟨m, hk, hh, (by show ((p.left - 1 : Nat) : Int) = r.left - 1; omega), rfl, rfl⟩)))))
theorem sim_hex (p : Sc) (r : R.St) (c : Nat) (h : Sim p r) (hm : r.o.mode = 6) (m : r.mode = 3) (hk : p.k = jHex) (hl : (p.left : Int) = r.left) (hu : (p.unit : Int) = r.number) (hp : p.pair = decide (0 < r.high)) : Res (pHex p c) (R.rLit r c) := by
  have hs : R.stepF r c = R.digitsStep r c := by unfold R.stepF; rw [if_neg (by omega), if_neg (by omega), if_neg (by omega), if_pos m]
  have hd : p.done = false := by have := h.hd; rw [hm] at this; exact this
  obtain ⟨-, hh, h3, -⟩ := (h.li hm).2.1
  obtain ⟨i1, i2, i3, i4, i5, i6, i7, i8⟩ := h3 m
  unfold R.InH at hh
  unfold R.digitsStep at hs
  rw [hex_same] at hs
  unfold pHex
  by_cases h16 : hexD c = 16
  · rw [if_pos h16]
    rw [if_pos h16, if_pos (by decide)] at hs
    exact lit_no h hs rfl
  rw [if_neg h16] at hs ⊢
  have hd16 := hexD_le c
  rw [if_neg (by omega)] at hs
  simp only []
  obtain ⟨u, hun⟩ : ∃ u, 16 * p.unit + hexD c = u := ⟨_, rfl⟩
  have hui : 16 * r.number + (hexD c : Int) = (u : Int) := by omega
  rw [hui] at hs
  rw [hun]
  have hpt : p.pair = true ↔ 0 < r.high := by rw [hp]; simp
  by_cases l4 : r.left = 4
  · rw [if_pos l4] at hs
    have hp4 : p.left = 4 := by omega
    by_cases hb : p.pair = true ∧ u ≠ 13
    · rw [if_pos ⟨hp4, hb⟩]
      rw [decide_eq_false (by have := hpt.1 hb.1; omega)] at hs
      exact lit_no h hs rfl
    · rw [if_neg (fun e => hb e.2), if_neg (fun e => by omega), if_pos (by omega)]
      rw [decide_eq_true (by rcases hh with hh | hh; · exact .inl hh
                             · right; have hp1 : p.pair = true := hpt.2 (by omega)
                               by_cases hu13 : u = 13
                               · omega
                               · exact absurd ⟨hp1, hu13⟩ hb)] at hs
      exact lit_go h hm hs (by show r.mode ≠ 7; omega) rfl hd rfl (.inr (.inr (.inl ⟨m, hk, (by show ((p.left - 1 : Nat) : Int) = 3; omega), rfl, hp⟩)))
  rw [if_neg l4] at hs
  rw [if_neg (by omega)]
  by_cases l3 : r.left = 3
  · rw [if_pos l3] at hs
    have hp3 : p.left = 3 := by omega
    have hq : (p.pair = decide (u / 4 = 55)) ↔ (r.high = 0 ↔ ¬ (220 ≤ (u : Int) ∧ (u : Int) ≤ 223)) := by
      rw [hp]
      by_cases h55 : u / 4 = 55
      · rw [decide_eq_true h55, decide_eq_true_iff]; omega
      · rw [decide_eq_false h55, decide_eq_false_iff_not]; omega
    by_cases hb : p.pair = decide (u / 4 = 55)
    · rw [if_neg (fun e => e.2 hb), if_pos (by omega)]
      rw [decide_eq_true (hq.1 hb)] at hs
      exact lit_go h hm hs (by show r.mode ≠ 7; omega) rfl hd rfl (.inr (.inr (.inl ⟨m, hk, (by show ((p.left - 1 : Nat) : Int) = 2; omega), rfl, hp⟩)))
    · rw [if_pos ⟨hp3, hb⟩]
      rw [decide_eq_false (fun e => hb (hq.2 e))] at hs
      exact lit_no h hs rfl
  rw [if_neg l3] at hs
  rw [if_neg (by omega)]
  by_cases l2 : r.left = 2
  · rw [if_pos l2] at hs
    rw [if_pos (by omega)]
    exact lit_go h hm hs (by show r.mode ≠ 7; omega) rfl hd rfl (.inr (.inr (.inl ⟨m, hk, (by show ((p.left - 1 : Nat) : Int) = 1; omega), rfl, hp⟩)))
  rw [if_neg l2] at hs
  rw [if_neg (by omega)]
  have l1 : r.left = 1 := by omega
  by_cases hhi : 0 < r.high
  · rw [if_pos hhi] at hs
    have := (i8 hhi).2 l1
    rw [if_neg (by omega)]
    exact lit_go h hm hs (by show (1 : Int) ≠ 7; decide) rfl rfl rfl (.inl ⟨rfl, rfl, rfl⟩)
  rw [if_neg hhi] at hs
  by_cases h54 : 55296 ≤ (u : Int) ∧ (u : Int) ≤ 56319
  · rw [if_pos h54] at hs
    rw [if_pos (by omega)]
    exact lit_go h hm hs (by show (4 : Int) ≠ 7; decide) rfl rfl rfl (.inr (.inr (.inr (.inl ⟨rfl, rfl, (by show 0 < (u : Int); omega)⟩))))
  · rw [if_neg h54] at hs
    rw [if_neg (by omega)]
    exact lit_go h hm hs (by show (1 : Int) ≠ 7; decide) rfl rfl rfl (.inl ⟨rfl, rfl, (by show r.high = 0; omega)⟩)

theorem sim_lit (p : Sc) (r : R.St) (c : Nat) (h : Sim p r) (hm : r.o.mode = 6) : Res (pstep p c) (R.rLit r c) := by
  rcases (h.li hm).2.2 with ⟨m, hk, hh⟩ | ⟨m, hk, hh⟩ | ⟨m, hk, hl, hu, hp⟩ | ⟨m, hk, hh⟩ | ⟨m, hk, hh⟩ | ⟨m, hk, hh, hl, hlo, hhi⟩
  · have := sim_text p r c h hm m hh hk
    unfold pstep
    rw [hk]; exact this
  · have := sim_stroke p r c h hm m hh
    unfold pstep
    rw [hk]; exact this
  · have := sim_hex p r c h hm m hk hl hu hp
    unfold pstep
    rw [hk]; exact this
  · have := sim_second p r c h hm m hh
    unfold pstep
    rw [hk]; exact this
  · have := sim_letter p r c h hm m hh
    unfold pstep
    rw [hk]; exact this
  · have := sim_follow p r c h hm m hh hk hl hlo hhi
    unfold pstep
    rw [hk]; exact this

theorem sim_step (p : Sc) (r : R.St) (c : Nat) (h : Sim p r) : Res (pstep p c) (R.rstep r c) := by
  have hmd := h.md
  have hk := h.hk
  unfold R.rstep
  by_cases h6 : r.o.mode = 6
  · rw [if_pos h6]; exact sim_lit p r c h h6
  rw [if_neg h6]
  have hk := hk h6
  by_cases h7 : r.o.mode = 7
  · rw [if_pos h7]
    have := sim_word p r c h h7
    rw [h7] at hk
    unfold pstep
    rw [hk]; exact this
  rw [if_neg h7]
  by_cases h8 : 8 ≤ r.o.mode
  · rw [if_pos h8]
    have hm : r.o.mode = 8 ∨ r.o.mode = 9 ∨ r.o.mode = 10 ∨ r.o.mode = 11 ∨ r.o.mode = 12 ∨ r.o.mode = 13 ∨ r.o.mode = 14 ∨ r.o.mode = 15 := by omega
    rcases hm with hm | hm | hm | hm | hm | hm | hm | hm
    · have := sim_minus p r c h hm
      rw [hm] at hk; unfold pstep; rw [hk]; exact this
    · have := sim_zero0 p r c h (.inl hm) (.inr hm)
      rw [hm] at hk; unfold pstep; rw [hk]; exact this
    · have := sim_digits p r c h hm
      rw [hm] at hk; unfold pstep; rw [hk]; exact this
    · have := sim_point p r c h hm
      rw [hm] at hk; unfold pstep; rw [hk]; exact this
    · have := sim_behind p r c h hm
      rw [hm] at hk; unfold pstep; rw [hk]; exact this
    · have := sim_sign p r c h hm
      rw [hm] at hk; unfold pstep; rw [hk]; exact this
    · have := sim_power p r c h (.inl hm)
      rw [hm] at hk; unfold pstep; rw [hk]; exact this
    · have := sim_powers p r c h hm
      rw [hm] at hk; unfold pstep; rw [hk]; exact this
  · rw [if_neg h8]
    have hm : r.o.mode = 0 ∨ r.o.mode = 1 ∨ r.o.mode = 2 ∨ r.o.mode = 3 ∨ r.o.mode = 4 ∨ r.o.mode = 5 := by omega
    rcases hm with hm | hm | hm | hm | hm | hm
    · have := sim_value p r c h hm
      rw [hm] at hk; unfold pstep; rw [hk]; exact this
    · have := sim_firstItem p r c h hm
      rw [hm] at hk; unfold pstep; rw [hk]; exact this
    · have := sim_firstKey p r c h hm
      rw [hm] at hk; unfold pstep; rw [hk]; exact this
    · have := sim_keys p r c h hm
      rw [hm] at hk; unfold pstep; rw [hk]; exact this
    · have := sim_colon p r c h hm
      rw [hm] at hk; unfold pstep; rw [hk]; exact this
    · have := sim_after p r c h.op hm
      rw [hm] at hk; unfold pstep; rw [hk]; exact this
end Go.Proofs.YtjfeebbhkolmoaaDoor

namespace Go.Proofs.YtjfeebbhkolmoaaDoor
open Go.RowKit
set_option linter.unusedVariables false

theorem pNumber_tx (s : R.St) (c : Nat) : (R.pNumber s c).1.text = s.text := by
  unfold R.pNumber
  repeat' split
  all_goals rfl
theorem pValue_tx (s : R.St) (c : Nat) : (R.pValue s c).1.text.length ≤ s.text.length := by
  unfold R.pValue
  repeat' split
  all_goals first | exact Nat.le_refl _ | exact Nat.zero_le _
theorem pCloses_tx (s : R.St) (c : Nat) : (R.pCloses s c).1.text = s.text := by
  unfold R.pCloses
  split <;> rfl
theorem rBetween_tx (s : R.St) (c : Nat) : (R.rBetween s c).1.text.length ≤ s.text.length := by
  unfold R.rBetween
  split
  · exact Nat.le_refl _
  unfold R.pSign
  split
  · show (R.pCloses s c).1.text.length ≤ _; rw [pCloses_tx]; exact Nat.le_refl _
  split
  · exact Nat.le_refl _
  split
  · exact Nat.le_refl _
  split
  · exact Nat.zero_le _
  split
  · exact pValue_tx s c
  · exact Nat.le_refl _
theorem rstep_tx (s : R.St) (c : Nat) (hi : R.InR s) (h0 : (R.rstep s c).2 = 0) : (R.rstep s c).1.text.length ≤ s.text.length + 4 := by
  unfold R.rstep at *
  by_cases h6 : s.o.mode = 6
  · rw [if_pos h6] at h0 ⊢
    unfold R.rLit at *
    by_cases hk : (R.stepF s c).2 = true
    · have h := (R.step_ok s c (hi.li h6) hk).2
      rw [if_pos hk] at h0 ⊢
      split
      · exact h
      · exact h
    · rw [if_neg hk] at h0; exact absurd (show (3 : Nat) = 0 from h0) (by decide)
  rw [if_neg h6] at h0 ⊢
  by_cases h7 : s.o.mode = 7
  · rw [if_pos h7] at h0 ⊢
    unfold R.rWord
    split
    · exact Nat.le_add_right _ _
    · repeat' split
      all_goals exact Nat.le_add_right _ _
  rw [if_neg h7] at h0 ⊢
  by_cases h8 : 8 ≤ s.o.mode
  · rw [if_pos h8] at h0 ⊢
    unfold R.rNum
    have h := pNumber_tx s c
    split
    · have h2 := rBetween_tx (R.setM (R.pNumber s c).1 5) c
      have h3 : (R.setM (R.pNumber s c).1 5).text = s.text := h
      rw [h3] at h2
      omega
    · split
      · show (R.pNumber s c).1.text.length ≤ _; rw [h]; omega
      · show (R.pNumber s c).1.text.length ≤ _; rw [h]; omega
  · rw [if_neg h8] at h0 ⊢
    have := rBetween_tx s c
    omega

/-- side by side, an error told or not -/
structure Beside (p : Sc) (r : R.St) : Prop where
  op : Op p r
  size : p.size = r.o.size
  bad : p.bad = r.o.bad
  place : p.bad ≠ 0 → r.o.at_ = r.o.size
  sim : p.bad = 0 → Sim p r
  good : Good p
  lo : 0 ≤ p.size
  tx : p.bad = 0 → (r.text.length : Int) ≤ 4 * p.size
theorem beside_0 : Beside Sc0 R.ref0 where
  op := ⟨rfl, by decide, fun x hx => by cases hx⟩
  size := rfl
  bad := rfl
  place := fun h => absurd rfl h
  sim _ := Sim.of ⟨rfl, by decide, fun x hx => by cases hx⟩ 0 rfl rfl rfl (by decide)
  good := Sc0_good
  lo := Int.le_refl _
  tx _ := by decide
theorem Beside.feed {p : Sc} {r : R.St} (h : Beside p r) (c : Nat) : Beside (pfeed p c) (R.rfeed r c) := by
  by_cases hb : p.bad = 0
  · have hbr : r.o.bad = 0 := by rw [← h.bad]; exact hb
    have hs := h.sim hb
    obtain ⟨e1, e2, e3⟩ := sim_step p r c hs
    have k1 := pstep_okc p c
    have k2 := R.rstep_oth r c
    have hg := feed_good p c h.good
    have ht := rstep_tx r c hs.inR
    have t0 := h.tx hb
    have l0 := h.lo
    unfold pfeed at hg ⊢
    unfold R.rfeed
    rw [if_pos hb] at hg ⊢
    rw [if_pos hbr]
    by_cases hc : (pstep p c).2 = 0
    · have hc2 : (R.rstep r c).2 = 0 := by rw [← e1]; exact hc
      have hs' := e3 hc
      have ht := ht hc2
      rw [if_pos hc] at hg ⊢
      rw [if_pos hc2]
      exact ⟨e2.same rfl rfl, by show (pstep p c).1.size + 1 = (R.rstep r c).1.o.size + 1; rw [k1.2.1, k2.1, h.size], by show (pstep p c).2 = (R.rstep r c).1.o.bad; rw [hc, k2.2.1, hbr], fun hn => absurd hc hn, fun _ => ⟨hs'.op.same rfl rfl, hs'.md, hs'.hk, hs'.hd, hs'.t1, hs'.t2, hs'.wd, hs'.li⟩, hg, by show 0 ≤ (pstep p c).1.size + 1; rw [k1.2.1]; omega, fun _ => by
        show (((R.rstep r c).1.text.length : Nat) : Int) ≤ 4 * ((pstep p c).1.size + 1)
        rw [k1.2.1]; omega⟩
    · have hc2 : (R.rstep r c).2 ≠ 0 := by rw [← e1]; exact hc
      rw [if_neg hc] at hg ⊢
      rw [if_neg hc2]
      exact ⟨e2.same rfl rfl, by show (pstep p c).1.size = (R.rstep r c).1.o.size; rw [k1.2.1, k2.1, h.size], e1, fun _ => rfl, fun hn => absurd hn hc, hg, by show 0 ≤ (pstep p c).1.size; rw [k1.2.1]; exact h.lo, fun hn => absurd hn hc⟩
  · have hbr : r.o.bad ≠ 0 := by rw [← h.bad]; exact hb
    rw [show pfeed p c = p from if_neg hb, show R.rfeed r c = r from if_neg hbr]
    exact h
theorem Beside.write {p : Sc} {r : R.St} (h : Beside p r) (l : List Nat) : Beside (pwrite p l) (R.rwrite r l) := by
  induction l generalizing p r with
  | nil => exact h
  | cons x l ih => exact ih (h.feed x)
theorem Beside.fit {p : Sc} {r : R.St} (h : Beside p r) (hz : p.size ≤ 35184372088750) : R.Fit r where
  inr hb := (h.sim (h.bad.trans hb)).inR
  tx hb := by have := h.tx (h.bad.trans hb); omega
  lo := by rw [← h.size]; exact h.lo
  hi := by rw [← h.size]; omega
theorem Beside.close {p : Sc} {r : R.St} (h : Beside p r) : (R.pClose r).1 = pclose p ∧ (pclose p ≠ 0 → (R.pClose r).2 = p.size) := by
  unfold R.pClose pclose
  by_cases hb : p.bad = 0
  · have hbr : r.o.bad = 0 := by rw [← h.bad]; exact hb
    have hd := (h.sim hb).hd
    have hc : R.complB r = decide (p.done = true ∧ p.open_ = []) := by
      unfold R.complB
      rw [hd, h.op.size]
      unfold dOf
      by_cases ho : p.open_ = []
      · rw [ho]; simp
      · have : p.open_.length ≠ 0 := fun e => ho (List.eq_nil_of_length_eq_zero e)
        simp [ho]
    rw [if_pos hb, hc]
    by_cases hq : p.done = true ∧ p.open_ = []
    · rw [if_pos hq, decide_eq_true hq, if_neg (fun e => by cases e.2)]
      exact ⟨hbr, fun e => absurd rfl e⟩
    · rw [if_neg hq, decide_eq_false hq, if_pos ⟨hbr, rfl⟩]
      exact ⟨rfl, fun _ => h.size.symm⟩
  · have hbr : r.o.bad ≠ 0 := by rw [← h.bad]; exact hb
    rw [if_neg hb, if_neg (fun e => hbr e.1)]
    exact ⟨h.bad.symm, fun _ => (h.place hb).trans h.size.symm⟩
end Go.Proofs.YtjfeebbhkolmoaaDoor
