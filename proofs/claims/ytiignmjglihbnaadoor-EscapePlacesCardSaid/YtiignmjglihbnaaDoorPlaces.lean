/- The plain law of EscapePlaces: a beginning of a literal can be gone on with, and what is none cannot. -/
import Derived.Test.YtiignmjglihbnaaDoorForms
namespace Go.Proofs.YtiignmjglihbnaaDoor
open Go.RowKit
set_option linter.unusedVariables false

/-- the ends of ends(), without their last quote -/
def endB : Nat → List Nat
  | 0 => [34]
  | 1 => []
  | 2 => [110]
  | 3 => [48, 48, 48, 48]
  | 4 => [48, 48, 48]
  | 5 => [48, 48]
  | 6 => [48]
  | 7 => [48, 48, 92, 117, 100, 99, 48, 48]
  | 8 => [48, 92, 117, 100, 99, 48, 48]
  | 9 => [92, 117, 100, 99, 48, 48]
  | 10 => [117, 100, 99, 48, 48]
  | 11 => [100, 99, 48, 48]
  | 12 => [99, 48, 48]
  | 13 => [128]
  | 14 => [128, 128]
  | 15 => [160, 128]
  | 16 => [144, 128, 128]
  | 17 => [128, 128, 128]
  | _ => []
def endS (j : Nat) : ByteArray := strOf (endB j ++ [34])
def okE (st : St) (l : List Nat) : Prop := ∃ st', feed st l = some st' ∧ st'.mode = 1
theorem okE_nil {st : St} (h : st.mode = 1) : okE st [] := ⟨st, rfl, h⟩
theorem okE_cons {st st1 : St} {c : Nat} {l : List Nat} (h : stepF st c = (st1, true)) (hm : st1.mode ≠ 7) (h2 : okE st1 l) : okE st (c :: l) := by
  obtain ⟨st', g1, g2⟩ := h2
  refine ⟨st', ?_, g2⟩
  show (if _ then _ else _) = _
  rw [h]
  rw [if_pos ⟨rfl, hm⟩]
  exact g1
theorem okE_dig {st : St} {c d x f : Nat} {l : List Nat} (low : Bool) (hm : st.mode = 3) (hf : f ≤ 2) (hl : st.left = (((f + 2 : Nat)) : Int)) (hx : st.number = (x : Int)) (hh : InH st) (hlow : low = true ↔ 0 < st.high) (hc : digZ c = (d : Int)) (ho : offU low (2 - f) (16 * x + d) = false)
    (h2 : okE { st with number := (((16 * x + d : Nat)) : Int), left := (((f + 1 : Nat)) : Int) } l) : okE st (c :: l) := by
  have hd : ¬ digZ c < 0 := by omega
  have hN : digN c = d := by unfold digN; omega
  have hs := step3 st c hm
  rw [dig_step st c x f low hf hl hx hh hlow hd, hN, ho] at hs
  exact okE_cons hs (by show st.mode ≠ 7; omega) h2
theorem okE_hi {st : St} (hm : st.mode = 3) (hl : st.left = 1) (hp : 0 < st.high) : okE st [48] := by
  have hs := step3 st 48 hm
  unfold digitsStep at hs
  rw [if_neg (by decide), if_neg (by omega), if_neg (by omega), if_neg (by omega), if_pos hp] at hs
  exact okE_cons hs (show (1 : Int) ≠ 7 by decide) (okE_nil rfl)
theorem okE_lo {st : St} {x : Nat} (hm : st.mode = 3) (hl : st.left = 1) (hz : st.high = 0) (hx : st.number = (x : Int)) (hv : ¬ (55296 ≤ 16 * x ∧ 16 * x ≤ 56319)) : okE st [48] := by
  have hs := step3 st 48 hm
  have h48 : digZ 48 = 0 := by decide
  unfold digitsStep at hs
  rw [if_neg (by decide), if_neg (by omega), if_neg (by omega), if_neg (by omega), if_neg (by omega), if_neg (by rw [hx, h48]; omega)] at hs
  exact okE_cons hs (show (1 : Int) ≠ 7 by decide) (okE_nil rfl)
theorem okE_dc {st : St} (hm : st.mode = 3) (hl : st.left = 4) (hn : st.number = 0) (hh : InH st) (hp : 0 < st.high) : okE st [100, 99, 48, 48] :=
  okE_dig (d := 13) (x := 0) (f := 2) true hm (by decide) hl hn hh ⟨fun _ => hp, fun _ => rfl⟩ (by decide) (by decide)
    (okE_dig (d := 12) (x := 13) (f := 1) true hm (by decide) rfl rfl hh ⟨fun _ => hp, fun _ => rfl⟩ (by decide) (by decide)
      (okE_dig (d := 0) (x := 220) (f := 0) true hm (by decide) rfl rfl hh ⟨fun _ => hp, fun _ => rfl⟩ (by decide) (by decide)
        (okE_hi hm rfl hp)))
theorem okE_5 {st : St} (hm : st.mode = 5) (hh : InH st) (hp : 0 < st.high) : okE st [117, 100, 99, 48, 48] := by
  have hs : stepF st 117 = ({ st with mode := 3, left := 4, number := 0 }, true) := (step5 st 117 hm).trans rfl
  exact okE_cons hs (show (3 : Int) ≠ 7 by decide) (okE_dc rfl rfl rfl hh hp)
theorem okE_4 {st : St} (hm : st.mode = 4) (hh : InH st) (hp : 0 < st.high) : okE st [92, 117, 100, 99, 48, 48] := by
  have hs : stepF st 92 = ({ st with mode := 5 }, true) := (step4 st 92 hm).trans rfl
  exact okE_cons hs (show (5 : Int) ≠ 7 by decide) (okE_5 rfl hh hp)
theorem okE_sur {st : St} {x : Nat} (hm : st.mode = 3) (hl : st.left = 1) (hz : st.high = 0) (hx : st.number = (x : Int)) (hv : 55296 ≤ 16 * x ∧ 16 * x ≤ 56319) : okE st [48, 92, 117, 100, 99, 48, 48] := by
  have hs := step3 st 48 hm
  have h48 : digZ 48 = 0 := by decide
  have hn : 16 * st.number + digZ 48 = (((16 * x : Nat)) : Int) := by rw [hx, h48]; omega
  unfold digitsStep at hs
  rw [if_neg (by decide), hn, if_neg (by omega), if_neg (by omega), if_neg (by omega), if_neg (by omega), if_pos (by omega)] at hs
  exact okE_cons hs (show (4 : Int) ≠ 7 by decide) (okE_4 rfl (.inr (by show 55296 ≤ (((16 * x : Nat)) : Int) ∧ (((16 * x : Nat)) : Int) ≤ 56319; omega)) (by show 0 < (((16 * x : Nat)) : Int); omega))
theorem okE_byte {st : St} {c : Nat} {l : List Nat} (k : Nat) (hm : st.mode = 6) (hl : st.left = (((k + 2 : Nat)) : Int)) (h1 : st.low ≤ c) (h2 : c ≤ st.most) (h : ∀ st1 : St, st1.mode = 6 → st1.left = (((k + 1 : Nat)) : Int) → st1.low = 128 → st1.most = 191 → okE st1 l) : okE st (c :: l) := by
  have hs : stepF st c = ({ st with text := st.text ++ [c], low := 128, most := 191, left := st.left - 1, mode := if st.left - 1 = 0 then 1 else st.mode }, true) := by
    rw [step6 st _ hm]; unfold bytesStep; rw [if_neg (by omega)]
  have hm2 : (if st.left - 1 = 0 then 1 else st.mode) = (6 : Int) := by rw [if_neg (by omega)]; exact hm
  exact okE_cons hs (by show (if st.left - 1 = 0 then 1 else st.mode) ≠ (7 : Int); rw [hm2]; decide) (h _ hm2 (by show st.left - 1 = _; omega) rfl rfl)
theorem okE_byte1 {st : St} {c : Nat} (hm : st.mode = 6) (hl : st.left = 1) (h1 : st.low ≤ c) (h2 : c ≤ st.most) : okE st [c] := by
  have hs : stepF st c = ({ st with text := st.text ++ [c], low := 128, most := 191, left := st.left - 1, mode := if st.left - 1 = 0 then 1 else st.mode }, true) := by
    rw [step6 st _ hm]; unfold bytesStep; rw [if_neg (by omega)]
  have hm2 : (if st.left - 1 = 0 then 1 else st.mode) = (1 : Int) := if_pos (by omega)
  exact okE_cons hs (by show (if st.left - 1 = 0 then 1 else st.mode) ≠ (7 : Int); rw [hm2]; decide) (okE_nil hm2)

/-- what a State is that a beginning of a literal leads to -/
def InP (st : St) : Prop := InS st ∧ st.mode ≠ 7 ∧ (st.mode = 3 → 0 < st.high → st.left = 3 → st.number = 13) ∧ (st.mode = 4 ∨ st.mode = 5 → 0 < st.high) ∧
  (st.mode = 6 → (st.left = 1 → st.low ≤ 128 ∧ 128 ≤ st.most) ∧ (st.left = 2 → (st.low ≤ 128 ∧ 128 ≤ st.most) ∨ (st.low ≤ 160 ∧ 160 ≤ st.most)) ∧ (st.left = 3 → (st.low ≤ 144 ∧ 144 ≤ st.most) ∨ (st.low ≤ 128 ∧ 128 ≤ st.most)))

theorem off_free (low : Bool) (i x : Nat) (h : 2 ≤ i) : offU low i x = false := decide_eq_false (by omega)
theorem ends_ok (st : St) (h : InP st) : ∃ j, j < 18 ∧ okE st (endB j) := by
  obtain ⟨⟨hmode, hh, h3, h6⟩, h7, hp3, hp4, hp6⟩ := h
  rcases hmode with m | m | m | m | m | m | m | m
  · refine ⟨0, by decide, okE_cons (st1 := { st with mode := 1 }) ?_ (show (1 : Int) ≠ 7 by decide) (okE_nil rfl)⟩
    unfold stepF; rw [if_pos m]; rfl
  · exact ⟨1, by decide, okE_nil m⟩
  · refine ⟨2, by decide, okE_cons (st1 := { st with mode := 1, text := st.text ++ [10] }) ?_ (show (1 : Int) ≠ 7 by decide) (okE_nil rfl)⟩
    rw [step2 st _ m]; rfl
  · obtain ⟨i1, i2, i3, i4, i5, i6, i7, i8⟩ := h3 m
    obtain ⟨x, hx⟩ : ∃ x : Nat, st.number = (x : Int) := ⟨st.number.toNat, by omega⟩
    have hl : st.left = 4 ∨ st.left = 3 ∨ st.left = 2 ∨ st.left = 1 := by omega
    by_cases hz : 0 < st.high
    · have hlow : true = true ↔ 0 < st.high := ⟨fun _ => hz, fun _ => rfl⟩
      rcases hl with l | l | l | l
      · exact ⟨11, by decide, okE_dc m l (i4 l) hh hz⟩
      · refine ⟨12, by decide, ?_⟩
        have hn := hp3 m hz l
        exact okE_dig (d := 12) (x := 13) (f := 1) true m (by decide) l hn hh hlow (by decide) (by decide)
          (okE_dig (d := 0) (x := 220) (f := 0) true m (by decide) rfl rfl hh hlow (by decide) (by decide) (okE_hi m rfl hz))
      · exact ⟨5, by decide, okE_dig (d := 0) (x := x) (f := 0) true m (by decide) l hx hh hlow (by decide) (off_free _ _ _ (by decide)) (okE_hi m rfl hz)⟩
      · exact ⟨6, by decide, okE_hi m l hz⟩
    · have hz0 : st.high = 0 := by unfold InH at hh; omega
      have hlow : false = true ↔ 0 < st.high := ⟨fun k => (by cases k), fun k => absurd k hz⟩
      rcases hl with l | l | l | l
      · exact ⟨3, by decide, okE_dig (d := 0) (x := 0) (f := 2) false m (by decide) l (i4 l) hh hlow (by decide) (by decide)
          (okE_dig (d := 0) (x := 0) (f := 1) false m (by decide) rfl rfl hh hlow (by decide) (by decide)
            (okE_dig (d := 0) (x := 0) (f := 0) false m (by decide) rfl rfl hh hlow (by decide) (by decide) (okE_lo (x := 0) m rfl hz0 rfl (by decide))))⟩
      · have hx15 : x ≤ 15 := by have := i5 l; omega
        refine ⟨4, by decide, okE_dig (d := 0) (x := x) (f := 1) false m (by decide) l hx hh hlow (by decide) ?_
          (okE_dig (d := 0) (x := 16 * x + 0) (f := 0) false m (by decide) rfl rfl hh hlow (by decide) (off_free _ _ _ (by decide)) (okE_lo (x := 16 * (16 * x + 0) + 0) m rfl hz0 rfl (by omega)))⟩
        refine decide_eq_false (fun k => ?_)
        rcases k with ⟨k, -⟩ | ⟨-, k⟩
        · omega
        · have := k.2 (by omega); cases this
      · by_cases hs : 216 ≤ x ∧ x ≤ 219
        · exact ⟨7, by decide, okE_dig (d := 0) (x := x) (f := 0) false m (by decide) l hx hh hlow (by decide) (off_free _ _ _ (by decide)) (okE_sur (x := 16 * x + 0) m rfl hz0 rfl (by omega))⟩
        · exact ⟨5, by decide, okE_dig (d := 0) (x := x) (f := 0) false m (by decide) l hx hh hlow (by decide) (off_free _ _ _ (by decide)) (okE_lo (x := 16 * x + 0) m rfl hz0 rfl (by omega))⟩
      · by_cases hs : 55296 ≤ 16 * x ∧ 16 * x ≤ 56319
        · exact ⟨8, by decide, okE_sur m l hz0 hx hs⟩
        · exact ⟨6, by decide, okE_lo m l hz0 hx hs⟩
  · exact ⟨9, by decide, okE_4 m hh (hp4 (.inl m))⟩
  · exact ⟨10, by decide, okE_5 m hh (hp4 (.inr m))⟩
  · obtain ⟨a1, a2⟩ := h6 m
    obtain ⟨b1, b2, b3⟩ := hp6 m
    have hl : st.left = 1 ∨ st.left = 2 ∨ st.left = 3 := by omega
    have tail1 : ∀ st1 : St, st1.mode = 6 → st1.left = (((0 + 1 : Nat)) : Int) → st1.low = 128 → st1.most = 191 → okE st1 [128] := fun st1 c1 c2 c3 c4 => okE_byte1 c1 c2 (by omega) (by omega)
    have tail2 : ∀ st1 : St, st1.mode = 6 → st1.left = (((1 + 1 : Nat)) : Int) → st1.low = 128 → st1.most = 191 → okE st1 [128, 128] := fun st1 c1 c2 c3 c4 => okE_byte 0 c1 c2 (by omega) (by omega) tail1
    rcases hl with l | l | l
    · exact ⟨13, by decide, okE_byte1 m l (b1 l).1 (b1 l).2⟩
    · rcases b2 l with k | k
      · exact ⟨14, by decide, okE_byte 0 m l k.1 k.2 tail1⟩
      · exact ⟨15, by decide, okE_byte 0 m l k.1 k.2 tail1⟩
    · rcases b3 l with k | k
      · exact ⟨16, by decide, okE_byte 1 m l k.1 k.2 tail2⟩
      · exact ⟨17, by decide, okE_byte 1 m l k.1 k.2 tail2⟩
  · exact absurd m h7
end Go.Proofs.YtiignmjglihbnaaDoor
