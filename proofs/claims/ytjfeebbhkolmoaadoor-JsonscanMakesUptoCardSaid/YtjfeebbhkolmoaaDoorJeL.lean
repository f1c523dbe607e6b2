/- Chapter 10 in plain Lean: the literal at any place; there and back (for seat json). -/
import Derived.Test.YtjfeebbhkolmoaaDoorJeX

namespace Go.Proofs.YtjfeebbhkolmoaaDoor.E
open Go.RowKit
set_option linter.unusedVariables false

section
open Go.RowKit
theorem scanG_fail (b : Nat → Nat) (sz i : Nat) (st : St) (h : i < sz → (stepF st (b i)).2 = false) : scanG b (sz - i) i st = .error i := by
  by_cases hi : i < sz
  · obtain ⟨r, hr⟩ : ∃ r, sz - i = r + 1 := ⟨sz - i - 1, by omega⟩
    rw [hr, scanG, if_pos (h hi)]
  · rw [show sz - i = 0 by omega]; rfl
theorem scanG_go (b : Nat → Nat) (sz i : Nat) (st st2 : St) (hi : i < sz) (h : stepF st (b i) = (st2, true)) (hm : st2.mode ≠ 7) : scanG b (sz - i) i st = scanG b (sz - (i + 1)) (i + 1) st2 := by
  obtain ⟨r, hr⟩ : ∃ r, sz - i = r + 1 := ⟨sz - i - 1, by omega⟩
  have hr2 : sz - (i + 1) = r := by omega
  rw [hr, scanG, h, hr2]
  rw [if_neg (show ¬ ((st2, true).2 = false) from fun k => by cases k), if_neg (show ¬ ((st2, true).1.mode = 7) from hm)]
theorem scanG_end (b : Nat → Nat) (sz i : Nat) (st st2 : St) (hi : i < sz) (h : stepF st (b i) = (st2, true)) (hm : st2.mode = 7) : scanG b (sz - i) i st = .ok (st2.text, i + 1) := by
  obtain ⟨r, hr⟩ : ∃ r, sz - i = r + 1 := ⟨sz - i - 1, by omega⟩
  rw [hr, scanG, h]
  rw [if_neg (show ¬ ((st2, true).2 = false) from fun k => by cases k), if_pos (show (st2, true).1.mode = 7 from hm)]
theorem bytesAt_succ (b : Nat → Nat) (k n : Nat) : bytesAt b k (n + 1) = b k :: bytesAt b (k + 1) n := by
  unfold bytesAt
  rw [List.range_succ_eq_map, List.map_cons, List.map_map]
  congr 1
  apply List.map_congr_left
  intro j _
  show b (k + (j + 1)) = b (k + 1 + j)
  congr 1
  omega
theorem step6 (st : St) (c : Nat) (hm : st.mode = 6) : stepF st c = bytesStep st c := by
  unfold stepF
  rw [if_neg (by omega), if_neg (by omega), if_neg (by omega), if_neg (by omega), if_neg (by omega), if_neg (by omega), if_pos hm]
theorem cont_run (b : Nat → Nat) (sz k : Nat) : ∀ (l j lo hi : Nat) (st : St), st.mode = 6 → st.left = (((l + 1 : Nat)) : Int) → st.low = lo → st.most = hi → k + j ≤ sz →
    ((contN (fun j => b (k + j)) (sz - k) (l + 1) j lo hi).2 = false ∧ scanG b (sz - (k + j)) (k + j) st = .error (k + (contN (fun j => b (k + j)) (sz - k) (l + 1) j lo hi).1)) ∨
    ((contN (fun j => b (k + j)) (sz - k) (l + 1) j lo hi).2 = true ∧ (contN (fun j => b (k + j)) (sz - k) (l + 1) j lo hi).1 = j + (l + 1) ∧ k + j + (l + 1) ≤ sz ∧ ∃ st', st'.mode = 1 ∧ st'.high = st.high ∧ st'.text = st.text ++ bytesAt b (k + j) (l + 1) ∧ scanG b (sz - (k + j)) (k + j) st = scanG b (sz - (k + j + (l + 1))) (k + j + (l + 1)) st') := by
  intro l
  induction l with
  | zero =>
    intro j lo hi st hm hl hlo hhi hk
    by_cases q : j < sz - k ∧ lo ≤ b (k + j) ∧ b (k + j) ≤ hi
    · right
      have hc : contN (fun j => b (k + j)) (sz - k) (0 + 1) j lo hi = (j + 1, true) := by
        show (if j < sz - k ∧ lo ≤ b (k + j) ∧ b (k + j) ≤ hi then _ else _) = _
        rw [if_pos q]; rfl
      have hs : stepF st (b (k + j)) = ({ st with text := st.text ++ [b (k + j)], low := 128, most := 191, left := st.left - 1, mode := if st.left - 1 = 0 then 1 else st.mode }, true) := by
        rw [step6 st _ hm]; unfold bytesStep; rw [if_neg (by omega)]
      have hm2 : (if st.left - 1 = 0 then 1 else st.mode) = (1 : Int) := if_pos (by omega)
      rw [hc]
      refine ⟨rfl, rfl, by omega, { st with text := st.text ++ [b (k + j)], low := 128, most := 191, left := st.left - 1, mode := if st.left - 1 = 0 then 1 else st.mode }, hm2, rfl, (by show st.text ++ [b (k + j)] = _; rw [bytesAt_succ]; rfl), ?_⟩
      exact scanG_go b sz (k + j) st _ (by omega) hs (by show (if st.left - 1 = 0 then 1 else st.mode) ≠ (7 : Int); rw [hm2]; decide)
    · left
      have hc : contN (fun j => b (k + j)) (sz - k) (0 + 1) j lo hi = (j, false) := by
        show (if j < sz - k ∧ lo ≤ b (k + j) ∧ b (k + j) ≤ hi then _ else _) = _
        rw [if_neg q]
      rw [hc]
      refine ⟨rfl, scanG_fail b sz (k + j) st (fun hi' => ?_)⟩
      rw [step6 st _ hm]; unfold bytesStep; rw [if_pos (by omega)]
  | succ l ih =>
    intro j lo hi st hm hl hlo hhi hk
    by_cases q : j < sz - k ∧ lo ≤ b (k + j) ∧ b (k + j) ≤ hi
    · have hc : contN (fun j => b (k + j)) (sz - k) (l + 1 + 1) j lo hi = contN (fun j => b (k + j)) (sz - k) (l + 1) (j + 1) 128 191 := by
        show (if j < sz - k ∧ lo ≤ b (k + j) ∧ b (k + j) ≤ hi then _ else _) = _
        rw [if_pos q]
      have hs : stepF st (b (k + j)) = ({ st with text := st.text ++ [b (k + j)], low := 128, most := 191, left := st.left - 1, mode := if st.left - 1 = 0 then 1 else st.mode }, true) := by
        rw [step6 st _ hm]; unfold bytesStep; rw [if_neg (by omega)]
      have hm2 : (if st.left - 1 = 0 then 1 else st.mode) = (6 : Int) := by rw [if_neg (by omega)]; exact hm
      have hgo := scanG_go b sz (k + j) st _ (by omega) hs (by show (if st.left - 1 = 0 then 1 else st.mode) ≠ (7 : Int); rw [hm2]; decide)
      have h := ih (j + 1) 128 191 { st with text := st.text ++ [b (k + j)], low := 128, most := 191, left := st.left - 1, mode := if st.left - 1 = 0 then 1 else st.mode } hm2 (by show st.left - 1 = _; omega) rfl rfl (by omega)
      rw [hc, hgo]
      rcases h with ⟨h1, h2⟩ | ⟨h1, h2, h3, st', g1, g2, g3, g4⟩
      · left; exact ⟨h1, h2⟩
      · right
        refine ⟨h1, by omega, by omega, st', g1, g2, ?_, ?_⟩
        · rw [g3, bytesAt_succ b (k + j) (l + 1)]
          show st.text ++ [b (k + j)] ++ _ = _
          rw [List.append_assoc]; rfl
        · rw [show k + j + (l + 1 + 1) = k + (j + 1) + (l + 1) by omega]
          exact g4
    · left
      have hc : contN (fun j => b (k + j)) (sz - k) (l + 1 + 1) j lo hi = (j, false) := by
        show (if j < sz - k ∧ lo ≤ b (k + j) ∧ b (k + j) ≤ hi then _ else _) = _
        rw [if_neg q]
      rw [hc]
      refine ⟨rfl, scanG_fail b sz (k + j) st (fun hi' => ?_)⟩
      rw [step6 st _ hm]; unfold bytesStep; rw [if_pos (by omega)]
theorem step3 (st : St) (c : Nat) (hm : st.mode = 3) : stepF st c = digitsStep st c := by
  unfold stepF
  rw [if_neg (by omega), if_neg (by omega), if_neg (by omega), if_pos hm]
/-- what the last of four digits makes of a State -/
def FinS (st : St) (y : Nat) (st' : St) : Prop :=
  (0 < st.high → st'.mode = 1 ∧ st'.high = 0 ∧ st'.text = st.text ++ encN (65536 + (st.high - 55296) * 1024 + (y : Int) - 56320).toNat) ∧
  (st.high = 0 → (55296 ≤ y ∧ y ≤ 56319 → st'.mode = 4 ∧ st'.high = y ∧ st'.text = st.text) ∧ (¬ (55296 ≤ y ∧ y ≤ 56319) → st'.mode = 1 ∧ st'.high = 0 ∧ st'.text = st.text ++ encN y))
theorem dig_nat (c : Nat) (h : ¬ digZ c < 0) : digZ c = (digN c : Int) := by unfold digN; omega
/-- one digit ahead of the last -/
theorem dig_step (st : St) (c x f : Nat) (low : Bool) (hf : f ≤ 2) (hl : st.left = (((f + 2 : Nat)) : Int)) (hx : st.number = (x : Int)) (hh : InH st) (hlow : low = true ↔ 0 < st.high) (hd : ¬ digZ c < 0) :
    digitsStep st c = ({ st with number := (((16 * x + digN c : Nat)) : Int), left := (((f + 1 : Nat)) : Int) }, !(offU low (2 - f) (16 * x + digN c))) := by
  have hn : 16 * st.number + digZ c = (((16 * x + digN c : Nat)) : Int) := by rw [hx, dig_nat c hd]; omega
  unfold digitsStep
  rw [if_neg hd, hn]
  generalize 16 * x + digN c = m at *
  have h3 : f = 2 ∨ f = 1 ∨ f = 0 := by omega
  unfold InH at hh
  rcases h3 with rfl | rfl | rfl
  · rw [if_pos (by omega)]
    have : decide (st.high = 0 ∨ (m : Int) = 13) = !(offU low (2 - 2) m) := by
      unfold offU
      cases low with
      | false =>
        have : ¬ 0 < st.high := fun k => by have := hlow.2 k; cases this
        rw [decide_eq_true (show st.high = 0 ∨ (m : Int) = 13 by omega), decide_eq_false (by simp)]; rfl
      | true =>
        have : 0 < st.high := hlow.1 rfl
        by_cases k : m = 13
        · rw [decide_eq_true (show st.high = 0 ∨ (m : Int) = 13 by omega), decide_eq_false (by simp [k])]; rfl
        · rw [decide_eq_false (show ¬ (st.high = 0 ∨ (m : Int) = 13) by omega), decide_eq_true (by simp [k])]; rfl
    rw [this]; rfl
  · rw [if_neg (by omega), if_pos (by omega)]
    have : decide (st.high = 0 ↔ ¬ (220 ≤ (m : Int) ∧ (m : Int) ≤ 223)) = !(offU low (2 - 1) m) := by
      unfold offU
      by_cases k : 220 ≤ m ∧ m ≤ 223
      · cases low with
        | false =>
          have : ¬ 0 < st.high := fun k => by have := hlow.2 k; cases this
          rw [decide_eq_false (fun q => by have := q.1 (by omega); omega), decide_eq_true (.inr ⟨rfl, ⟨fun q => (by cases q), fun q => absurd k q⟩⟩)]; rfl
        | true =>
          have : 0 < st.high := hlow.1 rfl
          rw [decide_eq_true (show (st.high = 0 ↔ ¬ (220 ≤ (m : Int) ∧ (m : Int) ≤ 223)) from ⟨fun q => by omega, fun q => by omega⟩), decide_eq_false (fun q => by rcases q with ⟨q, -⟩ | ⟨-, q⟩; omega; exact (q.1 rfl) k)]; rfl
      · cases low with
        | false =>
          have : ¬ 0 < st.high := fun k => by have := hlow.2 k; cases this
          rw [decide_eq_true (show (st.high = 0 ↔ ¬ (220 ≤ (m : Int) ∧ (m : Int) ≤ 223)) from ⟨fun q => by omega, fun q => by omega⟩), decide_eq_false (fun q => by rcases q with ⟨q, -⟩ | ⟨-, q⟩; omega; exact absurd (q.2 k) (by decide))]; rfl
        | true =>
          have : 0 < st.high := hlow.1 rfl
          rw [decide_eq_false (fun q => by have := q.2 (by omega); omega), decide_eq_true (.inr ⟨rfl, ⟨fun _ => k, fun _ => rfl⟩⟩)]; rfl
    rw [this]; rfl
  · rw [if_neg (by omega), if_neg (by omega), if_pos (by omega)]
    have : offU low (2 - 0) m = false := decide_eq_false (by omega)
    rw [this]; rfl
theorem dig_run (b : Nat → Nat) (sz q : Nat) (low : Bool) (hout : ∀ j, sz ≤ j → b j = 256) : ∀ (f i x : Nat) (st : St), i + (f + 1) = 4 → st.mode = 3 → st.left = (((f + 1 : Nat)) : Int) → st.number = (x : Int) → InH st → (low = true ↔ 0 < st.high) → q + i ≤ sz →
    ((unitN (fun j => b (q + j)) low (f + 1) i x).2.2 = false ∧ scanG b (sz - (q + i)) (q + i) st = .error (q + (unitN (fun j => b (q + j)) low (f + 1) i x).2.1)) ∨
    ((unitN (fun j => b (q + j)) low (f + 1) i x).2.2 = true ∧ (unitN (fun j => b (q + j)) low (f + 1) i x).2.1 = 4 ∧ q + 4 ≤ sz ∧ ∃ st', FinS st (unitN (fun j => b (q + j)) low (f + 1) i x).1 st' ∧ scanG b (sz - (q + i)) (q + i) st = scanG b (sz - (q + 4)) (q + 4) st') := by
  intro f
  induction f with
  | zero =>
    intro i x st hi hm hl hx hh hlow hq
    obtain rfl : i = 3 := by omega
    have hu : ∀ r, (if digZ (b (q + 3)) < 0 then ((0, 3, false) : Nat × Nat × Bool) else if offU low 3 (16 * x + digN (b (q + 3))) = true then (0, 3, false) else (16 * x + digN (b (q + 3)), 4, true)) = r → unitN (fun j => b (q + j)) low (0 + 1) 3 x = r := fun r h => h
    have ho : offU low 3 (16 * x + digN (b (q + 3))) = false := decide_eq_false (by omega)
    by_cases hd : digZ (b (q + 3)) < 0
    · left
      rw [hu (0, 3, false) (if_pos hd)]
      refine ⟨rfl, scanG_fail b sz (q + 3) st (fun _ => ?_)⟩
      rw [step3 st _ hm]; unfold digitsStep; rw [if_pos hd]
    · right
      rw [hu (16 * x + digN (b (q + 3)), 4, true) (by rw [if_neg hd, if_neg (by rw [ho]; decide)])]
      have hlt : q + 3 < sz := by
        by_cases k : q + 3 < sz
        · exact k
        · rw [hout (q + 3) (by omega)] at hd; exact absurd (by decide) hd
      have hn : 16 * st.number + digZ (b (q + 3)) = (((16 * x + digN (b (q + 3)) : Nat)) : Int) := by rw [hx, dig_nat _ hd]; omega
      have hs := step3 st (b (q + 3)) hm
      unfold digitsStep at hs
      rw [if_neg hd, hn, if_neg (by omega), if_neg (by omega), if_neg (by omega)] at hs
      generalize 16 * x + digN (b (q + 3)) = m at *
      refine ⟨rfl, rfl, by omega, ?_⟩
      unfold InH at hh
      by_cases hp : 0 < st.high
      · rw [if_pos hp] at hs
        refine ⟨_, ?_, scanG_go b sz (q + 3) st _ hlt hs (show (1 : Int) ≠ 7 by decide)⟩
        exact ⟨fun _ => ⟨rfl, rfl, rfl⟩, fun k => by omega⟩
      · rw [if_neg hp] at hs
        by_cases hv : 55296 ≤ (m : Int) ∧ (m : Int) ≤ 56319
        · rw [if_pos hv] at hs
          refine ⟨_, ?_, scanG_go b sz (q + 3) st _ hlt hs (show (4 : Int) ≠ 7 by decide)⟩
          exact ⟨fun k => absurd k hp, fun _ => ⟨fun _ => ⟨rfl, rfl, rfl⟩, fun k => absurd (show 55296 ≤ m ∧ m ≤ 56319 by omega) k⟩⟩
        · rw [if_neg hv, Int.toNat_natCast] at hs
          refine ⟨_, ?_, scanG_go b sz (q + 3) st _ hlt hs (show (1 : Int) ≠ 7 by decide)⟩
          exact ⟨fun k => absurd k hp, fun k0 => ⟨fun k => absurd (show 55296 ≤ (m : Int) ∧ (m : Int) ≤ 56319 by omega) hv, fun _ => ⟨rfl, k0, rfl⟩⟩⟩
  | succ f ih =>
    intro i x st hi hm hl hx hh hlow hq
    obtain rfl : i = 2 - f := by omega
    have hu : ∀ r, (if digZ (b (q + (2 - f))) < 0 then ((0, 2 - f, false) : Nat × Nat × Bool) else if offU low (2 - f) (16 * x + digN (b (q + (2 - f)))) = true then (0, 2 - f, false) else unitN (fun j => b (q + j)) low (f + 1) (2 - f + 1) (16 * x + digN (b (q + (2 - f))))) = r → unitN (fun j => b (q + j)) low (f + 1 + 1) (2 - f) x = r := fun r h => h
    by_cases hd : digZ (b (q + (2 - f))) < 0
    · left
      rw [hu (0, 2 - f, false) (if_pos hd)]
      refine ⟨rfl, scanG_fail b sz (q + (2 - f)) st (fun _ => ?_)⟩
      rw [step3 st _ hm]; unfold digitsStep; rw [if_pos hd]
    · have hlt : q + (2 - f) < sz := by
        by_cases k : q + (2 - f) < sz
        · exact k
        · rw [hout (q + (2 - f)) (by omega)] at hd; exact absurd (by decide) hd
      have hs := step3 st (b (q + (2 - f))) hm
      rw [dig_step st (b (q + (2 - f))) x f low (by omega) hl hx hh hlow hd] at hs
      generalize 16 * x + digN (b (q + (2 - f))) = m at *
      by_cases ho : offU low (2 - f) m = true
      · left
        rw [hu (0, 2 - f, false) (by rw [if_neg hd, if_pos ho])]
        refine ⟨rfl, scanG_fail b sz (q + (2 - f)) st (fun _ => ?_)⟩
        rw [hs, ho]; rfl
      · rw [hu _ (by rw [if_neg hd, if_neg ho])]
        have ho' : (!(offU low (2 - f) m)) = true := by simpa using ho
        rw [ho'] at hs
        have hgo := scanG_go b sz (q + (2 - f)) st _ hlt hs (by show st.mode ≠ 7; omega)
        have h := ih (2 - f + 1) m { st with number := (m : Int), left := (((f + 1 : Nat)) : Int) } (by omega) hm rfl rfl hh hlow (by omega)
        rw [show q + (2 - f) + 1 = q + (2 - f + 1) by omega] at hgo
        rw [hgo]
        rcases h with ⟨h1, h2⟩ | ⟨h1, h2, h3, st', h4, h5⟩
        · left; exact ⟨h1, h2⟩
        · right; exact ⟨h1, h2, h3, st', h4, h5⟩
theorem step1 (st : St) (c : Nat) (hm : st.mode = 1) : stepF st c = inside st c := by
  unfold stepF
  rw [if_neg (by omega), if_pos hm]
theorem step2 (st : St) (c : Nat) (hm : st.mode = 2) : stepF st c = strokeStep st c := by
  unfold stepF
  rw [if_neg (by omega), if_neg (by omega), if_pos hm]
theorem step4 (st : St) (c : Nat) (hm : st.mode = 4) : stepF st c = ({ st with mode := 5 }, decide (c = 92)) := by
  unfold stepF
  rw [if_neg (by omega), if_neg (by omega), if_neg (by omega), if_neg (by omega), if_pos hm]
theorem step5 (st : St) (c : Nat) (hm : st.mode = 5) : stepF st c = ({ st with mode := 3, left := 4, number := 0 }, decide (c = 117)) := by
  unfold stepF
  rw [if_neg (by omega), if_neg (by omega), if_neg (by omega), if_neg (by omega), if_neg (by omega), if_pos hm]
/-- behind a backslash that stands at i -/
theorem stroke_run (b : Nat → Nat) (sz i : Nat) (hout : ∀ j, sz ≤ j → b j = 256) (hi : i < sz) (st : St) (hm : st.mode = 2) (hh : st.high = 0) :
    ((strokeN (fun j => b (i + j))).2.2 = false ∧ scanG b (sz - (i + 1)) (i + 1) st = .error (i + (strokeN (fun j => b (i + j))).2.1)) ∨
    ((strokeN (fun j => b (i + j))).2.2 = true ∧ i + (strokeN (fun j => b (i + j))).2.1 ≤ sz ∧ ∃ st', st'.mode = 1 ∧ st'.high = 0 ∧ st'.text = st.text ++ (strokeN (fun j => b (i + j))).1 ∧ scanG b (sz - (i + 1)) (i + 1) st = scanG b (sz - (i + (strokeN (fun j => b (i + j))).2.1)) (i + (strokeN (fun j => b (i + j))).2.1) st') := by
  have hs2 := step2 st (b (i + 1)) hm
  unfold strokeStep at hs2
  cases hL : letM (b (i + 1)) with
  | some m =>
    rw [hL] at hs2
    have hlt : i + 1 < sz := by
      by_cases k : i + 1 < sz
      · exact k
      · rw [hout (i + 1) (by omega)] at hL; exact absurd (show letM 256 = none by rfl) (by rw [hL]; simp)
    have hN : strokeN (fun j => b (i + j)) = ([m], 2, true) := by unfold strokeN; rw [hL]
    rw [hN]
    right
    exact ⟨rfl, by show i + 2 ≤ sz; omega, { st with mode := 1, text := st.text ++ [m] }, rfl, hh, rfl, scanG_go b sz (i + 1) st _ hlt hs2 (show (1 : Int) ≠ 7 by decide)⟩
  | none =>
    rw [hL] at hs2
    by_cases h117 : b (i + 1) = 117
    · have hlt : i + 1 < sz := by
        by_cases k : i + 1 < sz
        · exact k
        · rw [hout (i + 1) (by omega)] at h117; omega
      have hs2' : stepF st (b (i + 1)) = ({ st with mode := 3, left := 4, number := 0 }, true) := by rw [hs2, decide_eq_true h117]
      have hgo := scanG_go b sz (i + 1) st _ hlt hs2' (show (3 : Int) ≠ 7 by decide)
      rw [hgo]
      have hfun : (fun j => b (i + (2 + j))) = (fun j => b (i + 2 + j)) := by funext j; rw [Nat.add_assoc]
      have h := dig_run b sz (i + 2) false hout 3 0 0 { st with mode := 3, left := 4, number := 0 } rfl rfl rfl rfl (.inl hh) ⟨fun k => (by cases k), fun k => absurd (show (0 : Int) < st.high from k) (by omega)⟩ (by omega)
      rw [← hfun] at h
      have hN1 := fun x n hu => sN_1 (fun j => b (i + j)) x n h117 hu
      have hN2 := fun x n hu => sN_2 (fun j => b (i + j)) x n h117 hu
      have hN3 := fun x n hu => sN_3 (fun j => b (i + j)) x n h117 hu
      have hN4 := fun x n hu => sN_4 (fun j => b (i + j)) x n h117 hu
      have hN5 := fun x n hu => sN_5 (fun j => b (i + j)) x n h117 hu
      have hN6 := fun x n hu => sN_6 (fun j => b (i + j)) x n h117 hu
      have hU := unit_free (fun j => b (i + (2 + j)))
      generalize unitN (fun j => b (i + (2 + j))) false 4 0 0 = u at *
      obtain ⟨x, n, ok⟩ := u
      rcases h with ⟨h1, h2⟩ | ⟨h1, h2, h3, st', hF, h5⟩
      · left
        obtain rfl : ok = false := h1
        rw [hN1 x n rfl]
        exact ⟨rfl, by rw [show i + 1 + 1 = i + 2 + 0 by omega, h2]; show Except.error (i + 2 + n) = Except.error (i + (2 + n)); rw [Nat.add_assoc]⟩
      · obtain rfl : ok = true := h1
        obtain ⟨hx1, hx2, rfl⟩ := hU x n rfl
        have h5' : scanG b (sz - (i + 1 + 1)) (i + 1 + 1) { st with mode := 3, left := 4, number := 0 } = scanG b (sz - (i + 6)) (i + 6) st' := by
          rw [show i + 1 + 1 = i + 2 + 0 by omega, h5, show i + 2 + 4 = i + 6 by omega]
        rw [h5']
        have hF0 := hF.2 hh
        by_cases h54 : x / 1024 = 54
        · obtain ⟨g1, g2, g3⟩ := hF0.1 (by show 55296 ≤ x ∧ x ≤ 56319; omega)
          by_cases h6 : b (i + 6) = 92
          · have hlt6 : i + 6 < sz := by
              by_cases k : i + 6 < sz
              · exact k
              · rw [hout (i + 6) (by omega)] at h6; omega
            have hs6 : stepF st' (b (i + 6)) = ({ st' with mode := 5 }, true) := by rw [step4 st' _ g1, decide_eq_true h6]
            rw [scanG_go b sz (i + 6) st' _ hlt6 hs6 (show (5 : Int) ≠ 7 by decide), show i + 6 + 1 = i + 7 by omega]
            by_cases h7 : b (i + 7) = 117
            · have hlt7 : i + 7 < sz := by
                by_cases k : i + 7 < sz
                · exact k
                · rw [hout (i + 7) (by omega)] at h7; omega
              have hs7 : stepF { st' with mode := 5 } (b (i + 7)) = ({ st' with mode := 3, left := 4, number := 0 }, true) := by rw [step5 { st' with mode := 5 } _ rfl, decide_eq_true h7]
              rw [scanG_go b sz (i + 7) _ _ hlt7 hs7 (show (3 : Int) ≠ 7 by decide), show i + 7 + 1 = i + 8 + 0 by omega]
              have hfun2 : (fun j => b (i + (8 + j))) = (fun j => b (i + 8 + j)) := by funext j; rw [Nat.add_assoc]
              have hp : 0 < st'.high := by rw [g2]; show (0 : Int) < (x : Int); omega
              have h' := dig_run b sz (i + 8) true hout 3 0 0 { st' with mode := 3, left := 4, number := 0 } rfl rfl rfl rfl (.inr (by show 55296 ≤ st'.high ∧ st'.high ≤ 56319; rw [g2]; show 55296 ≤ (x : Int) ∧ (x : Int) ≤ 56319; omega)) ⟨fun _ => hp, fun _ => rfl⟩ (by omega)
              rw [← hfun2] at h'
              have hV := unit_low (fun j => b (i + (8 + j)))
              have hN5 := hN5 x 4 rfl h54 h6 h7
              have hN6 := hN6 x 4 rfl h54 h6 h7
              generalize unitN (fun j => b (i + (8 + j))) true 4 0 0 = v at *
              obtain ⟨y, m, ok2⟩ := v
              rcases h' with ⟨k1, k2⟩ | ⟨k1, k2, k3, st2, hF2, k5⟩
              · left
                obtain rfl : ok2 = false := k1
                rw [hN5 y m rfl, k2]
                exact ⟨rfl, by show Except.error (i + 8 + m) = Except.error (i + (8 + m)); rw [Nat.add_assoc]⟩
              · right
                obtain rfl : ok2 = true := k1
                obtain ⟨hy1, hy2, rfl⟩ := hV y m rfl
                obtain ⟨f1, f2, f3⟩ := hF2.1 hp
                obtain ⟨Rr, hRr⟩ : ∃ R, 65536 + (x - 55296) * 1024 + y - 56320 = R := ⟨_, rfl⟩
                have hRz : (65536 + ((x : Int) - 55296) * 1024 + (y : Int) - 56320).toNat = Rr := by omega
                have hNN := hN6 y 4 rfl
                rw [hRr] at hNN
                rw [hNN, k5]
                refine ⟨rfl, by show i + 12 ≤ sz; omega, st2, f1, f2, ?_, by show scanG b (sz - (i + 8 + 4)) (i + 8 + 4) st2 = scanG b (sz - (i + 12)) (i + 12) st2; rw [show i + 8 + 4 = i + 12 by omega]⟩
                rw [f3]
                show st'.text ++ encN (65536 + (st'.high - 55296) * 1024 + (y : Int) - 56320).toNat = st.text ++ encN Rr
                rw [g3, g2, hRz]
            · left
              rw [hN4 x 4 rfl h54 h6 h7]
              exact ⟨rfl, scanG_fail b sz (i + 7) _ (fun _ => by rw [step5 { st' with mode := 5 } _ rfl, decide_eq_false h7])⟩
          · left
            rw [hN3 x 4 rfl h54 h6]
            exact ⟨rfl, scanG_fail b sz (i + 6) _ (fun _ => by rw [step4 st' _ g1, decide_eq_false h6])⟩
        · right
          obtain ⟨g1, g2, g3⟩ := hF0.2 (by show ¬ (55296 ≤ x ∧ x ≤ 56319); omega)
          rw [hN2 x 4 rfl h54]
          exact ⟨rfl, by show i + 6 ≤ sz; omega, st', g1, g2, g3, rfl⟩
    · left
      have hN : strokeN (fun j => b (i + j)) = ([], 1, false) := by unfold strokeN; rw [hL]; exact if_pos h117
      rw [hN]
      exact ⟨rfl, scanG_fail b sz (i + 1) st (fun _ => by rw [hs2, decide_eq_false h117])⟩
theorem inside_hi (c : Nat) (h : 194 ≤ c) (h' : c ≤ 244) (st : St) : ∃ l, moreB c = l + 1 ∧ inside st c = ({ st with text := st.text ++ [c], mode := 6, low := loB c, most := hiB c, left := (((l + 1 : Nat)) : Int) }, true) := by
  have hm := moreB_le c
  refine ⟨moreB c - 1, by omega, ?_⟩
  unfold inside
  rw [if_neg (by omega), if_neg (by omega), if_neg (by omega), if_neg (by omega)]
  have : (if 240 ≤ c then (3 : Int) else if 224 ≤ c then 2 else 1) = (((moreB c - 1 + 1 : Nat)) : Int) := by
    unfold moreB
    by_cases k : 240 ≤ c
    · rw [if_pos k, if_pos k]; rfl
    · rw [if_neg k, if_neg k]
      by_cases q : 224 ≤ c
      · rw [if_pos q, if_pos q]; rfl
      · rw [if_neg q, if_neg q]; rfl
  rw [this]
theorem run_main (b : Nat → Nat) (sz : Nat) (hout : ∀ j, sz ≤ j → b j = 256) : ∀ (F i : Nat) (st : St) (t : List Nat), i ≤ sz → sz < i + F → st.mode = 1 → st.high = 0 → st.text = t → scanG b (sz - i) i st = scanP b sz F i t := by
  intro F
  induction F with
  | zero => intro i st t h1 h2; omega
  | succ F ih =>
    intro i st t h1 h2 hm hh ht
    rw [scanP]
    by_cases hi : i < sz
    · rw [if_neg (by omega)]
      have hs := step1 st (b i) hm
      by_cases h34 : b i = 34
      · rw [if_pos h34]
        have hs' : stepF st (b i) = ({ st with mode := 7 }, true) := by rw [hs]; unfold inside; rw [if_pos h34]
        rw [scanG_end b sz i st _ hi hs' rfl]
        show Except.ok (st.text, i + 1) = _
        rw [ht]
      rw [if_neg h34]
      by_cases h92 : b i = 92
      · have hp : pieceN b sz i = strokeN (fun j => b (i + j)) := by unfold pieceN; rw [if_pos h92]
        rw [hp]
        have hs' : stepF st (b i) = ({ st with mode := 2 }, true) := by rw [hs]; unfold inside; rw [if_neg h34, if_pos h92]
        rw [scanG_go b sz i st _ hi hs' (show (2 : Int) ≠ 7 by decide)]
        have hle := strokeN_le (fun j => b (i + j))
        have h := stroke_run b sz i hout hi { st with mode := 2 } rfl hh
        generalize strokeN (fun j => b (i + j)) = p at *
        rcases h with ⟨k1, k2⟩ | ⟨k1, k2, st', g1, g2, g3, g4⟩
        · rw [k2, if_pos k1]
        · rw [g4, if_neg (by rw [k1]; decide)]
          exact ih (i + p.2.1) st' (t ++ p.1) k2 (by omega) g1 g2 (by rw [g3, ← ht])
      by_cases hmid : 32 ≤ b i ∧ b i ≤ 127
      · have hp : pieceN b sz i = ([b i], 1, true) := by unfold pieceN; rw [if_neg h92, if_pos hmid]
        rw [hp, if_neg (show ¬ ((([b i], 1, true) : List Nat × Nat × Bool).2.2 = false) from fun k => by cases k)]
        have hs' : stepF st (b i) = ({ st with text := st.text ++ [b i] }, true) := by rw [hs]; unfold inside; rw [if_neg h34, if_neg h92, if_neg (by omega), if_pos (by omega)]
        rw [scanG_go b sz i st _ hi hs' (by show st.mode ≠ 7; omega)]
        exact ih (i + 1) _ (t ++ [b i]) (by omega) (by omega) hm hh (by show st.text ++ [b i] = _; rw [ht])
      · have hp : pieceN b sz i = (bytesAt b i (pointN (fun j => b (i + j)) (sz - i)).1, (pointN (fun j => b (i + j)) (sz - i)).1, (pointN (fun j => b (i + j)) (sz - i)).2) := by unfold pieceN; rw [if_neg h92, if_neg hmid]
        rw [hp]
        show _ = (if (pointN (fun j => b (i + j)) (sz - i)).2 = false then _ else _)
        by_cases hr : 194 ≤ b i ∧ b i ≤ 244
        · obtain ⟨l, hl, hin⟩ := inside_hi (b i) hr.1 hr.2 st
          have hpt : pointN (fun j => b (i + j)) (sz - i) = contN (fun j => b (i + j)) (sz - i) (l + 1) 1 (loB (b i)) (hiB (b i)) := by
            unfold pointN
            show (if b i < 194 ∨ 244 < b i then _ else contN (fun j => b (i + j)) (sz - i) (moreB (b i)) 1 (loB (b i)) (hiB (b i))) = _
            rw [if_neg (by omega), hl]
          rw [hpt]
          rw [hin] at hs
          rw [scanG_go b sz i st _ hi hs (show (6 : Int) ≠ 7 by decide)]
          have h := cont_run b sz i l 1 (loB (b i)) (hiB (b i)) { st with text := st.text ++ [b i], mode := 6, low := loB (b i), most := hiB (b i), left := (((l + 1 : Nat)) : Int) } rfl rfl rfl rfl (by omega)
          rcases h with ⟨k1, k2⟩ | ⟨k1, k2, k3, st', g1, g2, g3, g4⟩
          · rw [k2, if_pos k1]
          · rw [g4, if_neg (by rw [k1]; decide), k2]
            rw [show i + 1 + (l + 1) = i + (1 + (l + 1)) by omega]
            refine ih (i + (1 + (l + 1))) st' _ (by omega) (by omega) g1 (by rw [g2]; exact hh) ?_
            rw [g3, show 1 + (l + 1) = (l + 1) + 1 by omega, bytesAt_succ b i (l + 1)]
            show st.text ++ [b i] ++ _ = _
            rw [ht, List.append_assoc]; rfl
        · have hpt : pointN (fun j => b (i + j)) (sz - i) = (0, false) := by
            unfold pointN
            show (if b i < 194 ∨ 244 < b i then _ else _) = _
            rw [if_pos (by omega)]
          rw [hpt, if_pos (show ((0, false) : Nat × Bool).2 = false from rfl)]
          exact scanG_fail b sz i st (fun _ => by rw [hs]; unfold inside; rw [if_neg h34, if_neg h92, if_pos (by omega)])
    · obtain rfl : i = sz := by omega
      rw [if_pos (Nat.le_refl _), Nat.sub_self]
      rfl
theorem scan_law (s : ByteArray) (a : Nat) (h : a ≤ s.size) : scanAt s a = scanQ s a := by
  unfold scanAt scanQ
  by_cases k : s.size ≤ a ∨ bt s a ≠ 34
  · rw [if_pos k]
    exact scanG_fail (bt s) s.size a StZ (fun hlt => by
      rcases k with k | k
      · omega
      · unfold stepF
        rw [if_pos (show StZ.mode = 0 from rfl)]
        exact decide_eq_false k)
  · rw [if_neg k]
    have hlt : a < s.size := by omega
    have h34 : bt s a = 34 := by omega
    have hs : stepF StZ (bt s a) = ({ StZ with mode := 1 }, true) := by
      unfold stepF
      rw [if_pos (show StZ.mode = 0 from rfl), decide_eq_true h34]
    rw [scanG_go (bt s) s.size a StZ _ hlt hs (show (1 : Int) ≠ 7 by decide)]
    exact run_main (bt s) s.size (fun j hj => bt_out hj) (s.size + 20) (a + 1) _ [] (by omega) (by omega) rfl rfl rfl
end
section
open Go.RowKit
/-- bytes, one after another, of which none ends a literal or is wrong -/
def feed : St → List Nat → Option St
  | st, [] => some st
  | st, c :: l => if (stepF st c).2 = true ∧ (stepF st c).1.mode ≠ 7 then feed (stepF st c).1 l else none
theorem feed_app : ∀ (l m : List Nat) (st st1 : St), feed st l = some st1 → feed st (l ++ m) = feed st1 m := by
  intro l
  induction l with
  | nil => intro m st st1 h; cases h; rfl
  | cons c l ih =>
    intro m st st1 h
    unfold feed at h
    by_cases q : (stepF st c).2 = true ∧ (stepF st c).1.mode ≠ 7
    · rw [if_pos q] at h
      show (if _ then _ else _) = _
      rw [if_pos q]
      exact ih m _ st1 h
    · rw [if_neg q] at h; cases h
theorem feed_one (st st1 : St) (c : Nat) (h : stepF st c = (st1, true)) (hm : st1.mode ≠ 7) : feed st [c] = some st1 := by
  unfold feed
  rw [h]
  exact if_pos ⟨rfl, hm⟩
theorem scanG_feed (b : Nat → Nat) (sz : Nat) : ∀ (l : List Nat) (i : Nat) (st st' : St), (∀ j, j < l.length → b (i + j) = l.getD j 0) → i + l.length ≤ sz → feed st l = some st' → scanG b (sz - i) i st = scanG b (sz - (i + l.length)) (i + l.length) st' := by
  intro l
  induction l with
  | nil => intro i st st' hb hs h; cases h; rfl
  | cons c l ih =>
    intro i st st' hb hs h
    unfold feed at h
    by_cases q : (stepF st c).2 = true ∧ (stepF st c).1.mode ≠ 7
    · rw [if_pos q] at h
      have hc : b i = c := by have := hb 0 (by simp); simpa using this
      have hlen : (c :: l).length = l.length + 1 := rfl
      rw [scanG_go b sz i st (stepF st c).1 (by omega) (by rw [hc]; exact Prod.ext rfl q.1) q.2]
      rw [ih (i + 1) (stepF st c).1 st' (fun j hj => by have := hb (j + 1) (by omega); rw [show i + 1 + j = i + (j + 1) by omega, this]; rfl) (by omega) h]
      rw [show i + 1 + l.length = i + (c :: l).length by omega]
    · rw [if_neg q] at h; cases h
/-- what a State is between pieces, with a text -/
def Mid (st : St) (t : List Nat) : Prop := st.mode = 1 ∧ st.high = 0 ∧ st.text = t
theorem esc_0 (l n : Int) (lo mo : Nat) (t : List Nat) : feed ⟨1, l, n, 0, lo, mo, t⟩ (escB 0) = some ⟨1, 0, 0, 0, lo, mo, t ++ [0]⟩ := by kernel_rfl
theorem esc_1 (l n : Int) (lo mo : Nat) (t : List Nat) : feed ⟨1, l, n, 0, lo, mo, t⟩ (escB 1) = some ⟨1, 0, 1, 0, lo, mo, t ++ [1]⟩ := by kernel_rfl
theorem esc_2 (l n : Int) (lo mo : Nat) (t : List Nat) : feed ⟨1, l, n, 0, lo, mo, t⟩ (escB 2) = some ⟨1, 0, 2, 0, lo, mo, t ++ [2]⟩ := by kernel_rfl
theorem esc_3 (l n : Int) (lo mo : Nat) (t : List Nat) : feed ⟨1, l, n, 0, lo, mo, t⟩ (escB 3) = some ⟨1, 0, 3, 0, lo, mo, t ++ [3]⟩ := by kernel_rfl
theorem esc_4 (l n : Int) (lo mo : Nat) (t : List Nat) : feed ⟨1, l, n, 0, lo, mo, t⟩ (escB 4) = some ⟨1, 0, 4, 0, lo, mo, t ++ [4]⟩ := by kernel_rfl
theorem esc_5 (l n : Int) (lo mo : Nat) (t : List Nat) : feed ⟨1, l, n, 0, lo, mo, t⟩ (escB 5) = some ⟨1, 0, 5, 0, lo, mo, t ++ [5]⟩ := by kernel_rfl
theorem esc_6 (l n : Int) (lo mo : Nat) (t : List Nat) : feed ⟨1, l, n, 0, lo, mo, t⟩ (escB 6) = some ⟨1, 0, 6, 0, lo, mo, t ++ [6]⟩ := by kernel_rfl
theorem esc_7 (l n : Int) (lo mo : Nat) (t : List Nat) : feed ⟨1, l, n, 0, lo, mo, t⟩ (escB 7) = some ⟨1, 0, 7, 0, lo, mo, t ++ [7]⟩ := by kernel_rfl
theorem esc_8 (l n : Int) (lo mo : Nat) (t : List Nat) : feed ⟨1, l, n, 0, lo, mo, t⟩ (escB 8) = some ⟨1, l, n, 0, lo, mo, t ++ [8]⟩ := by kernel_rfl
theorem esc_9 (l n : Int) (lo mo : Nat) (t : List Nat) : feed ⟨1, l, n, 0, lo, mo, t⟩ (escB 9) = some ⟨1, l, n, 0, lo, mo, t ++ [9]⟩ := by kernel_rfl
theorem esc_10 (l n : Int) (lo mo : Nat) (t : List Nat) : feed ⟨1, l, n, 0, lo, mo, t⟩ (escB 10) = some ⟨1, l, n, 0, lo, mo, t ++ [10]⟩ := by kernel_rfl
theorem esc_11 (l n : Int) (lo mo : Nat) (t : List Nat) : feed ⟨1, l, n, 0, lo, mo, t⟩ (escB 11) = some ⟨1, 0, 11, 0, lo, mo, t ++ [11]⟩ := by kernel_rfl
theorem esc_12 (l n : Int) (lo mo : Nat) (t : List Nat) : feed ⟨1, l, n, 0, lo, mo, t⟩ (escB 12) = some ⟨1, l, n, 0, lo, mo, t ++ [12]⟩ := by kernel_rfl
theorem esc_13 (l n : Int) (lo mo : Nat) (t : List Nat) : feed ⟨1, l, n, 0, lo, mo, t⟩ (escB 13) = some ⟨1, l, n, 0, lo, mo, t ++ [13]⟩ := by kernel_rfl
theorem esc_14 (l n : Int) (lo mo : Nat) (t : List Nat) : feed ⟨1, l, n, 0, lo, mo, t⟩ (escB 14) = some ⟨1, 0, 14, 0, lo, mo, t ++ [14]⟩ := by kernel_rfl
theorem esc_15 (l n : Int) (lo mo : Nat) (t : List Nat) : feed ⟨1, l, n, 0, lo, mo, t⟩ (escB 15) = some ⟨1, 0, 15, 0, lo, mo, t ++ [15]⟩ := by kernel_rfl
theorem esc_16 (l n : Int) (lo mo : Nat) (t : List Nat) : feed ⟨1, l, n, 0, lo, mo, t⟩ (escB 16) = some ⟨1, 0, 16, 0, lo, mo, t ++ [16]⟩ := by kernel_rfl
theorem esc_17 (l n : Int) (lo mo : Nat) (t : List Nat) : feed ⟨1, l, n, 0, lo, mo, t⟩ (escB 17) = some ⟨1, 0, 17, 0, lo, mo, t ++ [17]⟩ := by kernel_rfl
theorem esc_18 (l n : Int) (lo mo : Nat) (t : List Nat) : feed ⟨1, l, n, 0, lo, mo, t⟩ (escB 18) = some ⟨1, 0, 18, 0, lo, mo, t ++ [18]⟩ := by kernel_rfl
theorem esc_19 (l n : Int) (lo mo : Nat) (t : List Nat) : feed ⟨1, l, n, 0, lo, mo, t⟩ (escB 19) = some ⟨1, 0, 19, 0, lo, mo, t ++ [19]⟩ := by kernel_rfl
theorem esc_20 (l n : Int) (lo mo : Nat) (t : List Nat) : feed ⟨1, l, n, 0, lo, mo, t⟩ (escB 20) = some ⟨1, 0, 20, 0, lo, mo, t ++ [20]⟩ := by kernel_rfl
theorem esc_21 (l n : Int) (lo mo : Nat) (t : List Nat) : feed ⟨1, l, n, 0, lo, mo, t⟩ (escB 21) = some ⟨1, 0, 21, 0, lo, mo, t ++ [21]⟩ := by kernel_rfl
theorem esc_22 (l n : Int) (lo mo : Nat) (t : List Nat) : feed ⟨1, l, n, 0, lo, mo, t⟩ (escB 22) = some ⟨1, 0, 22, 0, lo, mo, t ++ [22]⟩ := by kernel_rfl
theorem esc_23 (l n : Int) (lo mo : Nat) (t : List Nat) : feed ⟨1, l, n, 0, lo, mo, t⟩ (escB 23) = some ⟨1, 0, 23, 0, lo, mo, t ++ [23]⟩ := by kernel_rfl
theorem esc_24 (l n : Int) (lo mo : Nat) (t : List Nat) : feed ⟨1, l, n, 0, lo, mo, t⟩ (escB 24) = some ⟨1, 0, 24, 0, lo, mo, t ++ [24]⟩ := by kernel_rfl
theorem esc_25 (l n : Int) (lo mo : Nat) (t : List Nat) : feed ⟨1, l, n, 0, lo, mo, t⟩ (escB 25) = some ⟨1, 0, 25, 0, lo, mo, t ++ [25]⟩ := by kernel_rfl
theorem esc_26 (l n : Int) (lo mo : Nat) (t : List Nat) : feed ⟨1, l, n, 0, lo, mo, t⟩ (escB 26) = some ⟨1, 0, 26, 0, lo, mo, t ++ [26]⟩ := by kernel_rfl
theorem esc_27 (l n : Int) (lo mo : Nat) (t : List Nat) : feed ⟨1, l, n, 0, lo, mo, t⟩ (escB 27) = some ⟨1, 0, 27, 0, lo, mo, t ++ [27]⟩ := by kernel_rfl
theorem esc_28 (l n : Int) (lo mo : Nat) (t : List Nat) : feed ⟨1, l, n, 0, lo, mo, t⟩ (escB 28) = some ⟨1, 0, 28, 0, lo, mo, t ++ [28]⟩ := by kernel_rfl
theorem esc_29 (l n : Int) (lo mo : Nat) (t : List Nat) : feed ⟨1, l, n, 0, lo, mo, t⟩ (escB 29) = some ⟨1, 0, 29, 0, lo, mo, t ++ [29]⟩ := by kernel_rfl
theorem esc_30 (l n : Int) (lo mo : Nat) (t : List Nat) : feed ⟨1, l, n, 0, lo, mo, t⟩ (escB 30) = some ⟨1, 0, 30, 0, lo, mo, t ++ [30]⟩ := by kernel_rfl
theorem esc_31 (l n : Int) (lo mo : Nat) (t : List Nat) : feed ⟨1, l, n, 0, lo, mo, t⟩ (escB 31) = some ⟨1, 0, 31, 0, lo, mo, t ++ [31]⟩ := by kernel_rfl
theorem esc_34 (l n : Int) (lo mo : Nat) (t : List Nat) : feed ⟨1, l, n, 0, lo, mo, t⟩ (escB 34) = some ⟨1, l, n, 0, lo, mo, t ++ [34]⟩ := by kernel_rfl
theorem esc_92 (l n : Int) (lo mo : Nat) (t : List Nat) : feed ⟨1, l, n, 0, lo, mo, t⟩ (escB 92) = some ⟨1, l, n, 0, lo, mo, t ++ [92]⟩ := by kernel_rfl
theorem esc_ctl (c : Nat) (h : c < 32 ∨ c = 34 ∨ c = 92) (l n : Int) (lo mo : Nat) (t : List Nat) : ∃ st', feed ⟨1, l, n, 0, lo, mo, t⟩ (escB c) = some st' ∧ Mid st' (t ++ [c]) := by
  have : c = 0 ∨ c = 1 ∨ c = 2 ∨ c = 3 ∨ c = 4 ∨ c = 5 ∨ c = 6 ∨ c = 7 ∨ c = 8 ∨ c = 9 ∨ c = 10 ∨ c = 11 ∨ c = 12 ∨ c = 13 ∨ c = 14 ∨ c = 15 ∨ c = 16 ∨ c = 17 ∨ c = 18 ∨ c = 19 ∨ c = 20 ∨ c = 21 ∨ c = 22 ∨ c = 23 ∨ c = 24 ∨ c = 25 ∨ c = 26 ∨ c = 27 ∨ c = 28 ∨ c = 29 ∨ c = 30 ∨ c = 31 ∨ c = 34 ∨ c = 92 := by omega
  rcases this with rfl | rfl | rfl | rfl | rfl | rfl | rfl | rfl | rfl | rfl | rfl | rfl | rfl | rfl | rfl | rfl | rfl | rfl | rfl | rfl | rfl | rfl | rfl | rfl | rfl | rfl | rfl | rfl | rfl | rfl | rfl | rfl | rfl | rfl
  · exact ⟨_, esc_0 l n lo mo t, rfl, rfl, rfl⟩
  · exact ⟨_, esc_1 l n lo mo t, rfl, rfl, rfl⟩
  · exact ⟨_, esc_2 l n lo mo t, rfl, rfl, rfl⟩
  · exact ⟨_, esc_3 l n lo mo t, rfl, rfl, rfl⟩
  · exact ⟨_, esc_4 l n lo mo t, rfl, rfl, rfl⟩
  · exact ⟨_, esc_5 l n lo mo t, rfl, rfl, rfl⟩
  · exact ⟨_, esc_6 l n lo mo t, rfl, rfl, rfl⟩
  · exact ⟨_, esc_7 l n lo mo t, rfl, rfl, rfl⟩
  · exact ⟨_, esc_8 l n lo mo t, rfl, rfl, rfl⟩
  · exact ⟨_, esc_9 l n lo mo t, rfl, rfl, rfl⟩
  · exact ⟨_, esc_10 l n lo mo t, rfl, rfl, rfl⟩
  · exact ⟨_, esc_11 l n lo mo t, rfl, rfl, rfl⟩
  · exact ⟨_, esc_12 l n lo mo t, rfl, rfl, rfl⟩
  · exact ⟨_, esc_13 l n lo mo t, rfl, rfl, rfl⟩
  · exact ⟨_, esc_14 l n lo mo t, rfl, rfl, rfl⟩
  · exact ⟨_, esc_15 l n lo mo t, rfl, rfl, rfl⟩
  · exact ⟨_, esc_16 l n lo mo t, rfl, rfl, rfl⟩
  · exact ⟨_, esc_17 l n lo mo t, rfl, rfl, rfl⟩
  · exact ⟨_, esc_18 l n lo mo t, rfl, rfl, rfl⟩
  · exact ⟨_, esc_19 l n lo mo t, rfl, rfl, rfl⟩
  · exact ⟨_, esc_20 l n lo mo t, rfl, rfl, rfl⟩
  · exact ⟨_, esc_21 l n lo mo t, rfl, rfl, rfl⟩
  · exact ⟨_, esc_22 l n lo mo t, rfl, rfl, rfl⟩
  · exact ⟨_, esc_23 l n lo mo t, rfl, rfl, rfl⟩
  · exact ⟨_, esc_24 l n lo mo t, rfl, rfl, rfl⟩
  · exact ⟨_, esc_25 l n lo mo t, rfl, rfl, rfl⟩
  · exact ⟨_, esc_26 l n lo mo t, rfl, rfl, rfl⟩
  · exact ⟨_, esc_27 l n lo mo t, rfl, rfl, rfl⟩
  · exact ⟨_, esc_28 l n lo mo t, rfl, rfl, rfl⟩
  · exact ⟨_, esc_29 l n lo mo t, rfl, rfl, rfl⟩
  · exact ⟨_, esc_30 l n lo mo t, rfl, rfl, rfl⟩
  · exact ⟨_, esc_31 l n lo mo t, rfl, rfl, rfl⟩
  · exact ⟨_, esc_34 l n lo mo t, rfl, rfl, rfl⟩
  · exact ⟨_, esc_92 l n lo mo t, rfl, rfl, rfl⟩
theorem escB_self (c : Nat) (h : 32 ≤ c) (h1 : c ≠ 34) (h2 : c ≠ 92) : escB c = [c] := by
  unfold escB
  rw [if_neg (by omega), if_neg (by omega), if_neg (by omega), if_neg (by omega), if_neg (by omega), if_neg (by omega), if_neg (by omega), if_neg (by omega)]
theorem esc_low (c : Nat) (h : c < 128) (st : St) (t : List Nat) (hm : Mid st t) : ∃ st', feed st (escB c) = some st' ∧ Mid st' (t ++ [c]) := by
  obtain ⟨m1, m2, m3⟩ := hm
  by_cases q : c < 32 ∨ c = 34 ∨ c = 92
  · obtain ⟨mode, l, n, hi, lo, mo, t0⟩ := st
    obtain rfl : mode = 1 := m1
    obtain rfl : hi = 0 := m2
    obtain rfl : t0 = t := m3
    exact esc_ctl c q l n lo mo t0
  · rw [escB_self c (by omega) (by omega) (by omega)]
    have hs : stepF st c = ({ st with text := st.text ++ [c] }, true) := by
      rw [step1 st c m1]; unfold inside
      rw [if_neg (by omega), if_neg (by omega), if_neg (by omega), if_pos (by omega)]
    refine ⟨_, feed_one st _ c hs (by show st.mode ≠ 7; omega), m1, m2, ?_⟩
    show st.text ++ [c] = _
    rw [m3]
def escs (b : Nat → Nat) : Nat → Nat → List Nat
  | _, 0 => []
  | k, f + 1 => escB (b k) ++ escs b (k + 1) f
theorem outB_escs (s : ByteArray) : ∀ f k, outB s k ++ escs (bt s) k f = outB s (k + f) := by
  intro f
  induction f with
  | zero => intro k; exact List.append_nil _
  | succ f ih =>
    intro k
    show outB s k ++ (escB (bt s k) ++ escs (bt s) (k + 1) f) = _
    rw [← List.append_assoc, ← outB_succ, ih (k + 1)]
    congr 1
    omega
theorem bytesAt_cons (b : Nat → Nat) (k n : Nat) (t : List Nat) : t ++ [b k] ++ bytesAt b (k + 1) n = t ++ bytesAt b k (n + 1) := by
  rw [bytesAt_succ, List.append_assoc]; rfl
theorem escs_run (b : Nat → Nat) : ∀ (f k l lo hi : Nat) (st : St) (t : List Nat), runB b f k l lo hi = true → st.high = 0 → st.text = t → ((l = 0 ∧ st.mode = 1) ∨ (1 ≤ l ∧ st.mode = 6 ∧ st.left = (l : Int) ∧ st.low = lo ∧ st.most = hi ∧ 128 ≤ lo)) →
    ∃ st', feed st (escs b k f) = some st' ∧ Mid st' (t ++ bytesAt b k f) := by
  intro f
  induction f with
  | zero =>
    intro k l lo hi st t hr hh ht hm
    have hl : l = 0 := by
      have : (l == 0) = true := hr
      simpa using this
    rcases hm with ⟨-, h1⟩ | ⟨h0, -⟩
    · exact ⟨st, rfl, h1, hh, by rw [ht]; exact (List.append_nil _).symm⟩
    · omega
  | succ f ih =>
    intro k l lo hi st t hr hh ht hm
    rcases hm with ⟨rfl, h1⟩ | ⟨h0, h1, h2, h3, h4, h5⟩
    · rw [run_free] at hr
      by_cases q1 : b k < 128
      · rw [if_pos q1] at hr
        obtain ⟨st1, g1, g2, g3, g4⟩ := esc_low (b k) q1 st t ⟨h1, hh, ht⟩
        obtain ⟨st2, k1, k2⟩ := ih (k + 1) 0 lo hi st1 (t ++ [b k]) hr g3 g4 (.inl ⟨rfl, g2⟩)
        refine ⟨st2, ?_, by rw [← bytesAt_cons]; exact k2⟩
        show feed st (escB (b k) ++ escs b (k + 1) f) = _
        rw [feed_app _ _ _ _ g1, k1]
      · rw [if_neg q1] at hr
        by_cases q2 : b k < 194 ∨ 244 < b k
        · rw [if_pos q2] at hr; cases hr
        · rw [if_neg q2] at hr
          obtain ⟨m, hm, hin⟩ := inside_hi (b k) (by omega) (by omega) st
          have hs : stepF st (b k) = _ := (step1 st (b k) h1).trans hin
          have hf := feed_one st _ (b k) hs (show (6 : Int) ≠ 7 by decide)
          obtain ⟨st2, k1, k2⟩ := ih (k + 1) (moreB (b k)) (loB (b k)) (hiB (b k)) { st with text := st.text ++ [b k], mode := 6, low := loB (b k), most := hiB (b k), left := (((m + 1 : Nat)) : Int) } (t ++ [b k]) hr hh (by show st.text ++ [b k] = _; rw [ht]) (.inr ⟨by omega, rfl, by rw [hm], rfl, rfl, by unfold loB; split; omega; split <;> omega⟩)
          refine ⟨st2, ?_, by rw [← bytesAt_cons]; exact k2⟩
          show feed st (escB (b k) ++ escs b (k + 1) f) = _
          rw [escB_self (b k) (by omega) (by omega) (by omega), feed_app _ _ _ _ hf, k1]
    · obtain ⟨l', rfl⟩ : ∃ l', l = l' + 1 := ⟨l - 1, by omega⟩
      rw [run_due] at hr
      have hr1 : lo ≤ b k ∧ b k ≤ hi := by
        by_cases q : lo ≤ b k ∧ b k ≤ hi
        · exact q
        · rw [decide_eq_false q] at hr; cases hr
      rw [decide_eq_true hr1, Bool.true_and] at hr
      have hs : stepF st (b k) = ({ st with text := st.text ++ [b k], low := 128, most := 191, left := st.left - 1, mode := if st.left - 1 = 0 then 1 else st.mode }, true) := by
        rw [step6 st _ h1]; unfold bytesStep; rw [if_neg (by omega)]
      have hf := feed_one st _ (b k) hs (by show (if st.left - 1 = 0 then 1 else st.mode) ≠ (7 : Int); split <;> omega)
      obtain ⟨st2, k1, k2⟩ := ih (k + 1) l' 128 191 { st with text := st.text ++ [b k], low := 128, most := 191, left := st.left - 1, mode := if st.left - 1 = 0 then 1 else st.mode } (t ++ [b k]) hr hh (by show st.text ++ [b k] = _; rw [ht]) (by
        by_cases q : l' = 0
        · left; exact ⟨q, if_pos (by omega)⟩
        · right; exact ⟨by omega, by show (if st.left - 1 = 0 then 1 else st.mode) = (6 : Int); rw [if_neg (by omega)]; exact h1, by show st.left - 1 = _; omega, rfl, rfl, Nat.le_refl _⟩)
      refine ⟨st2, ?_, by rw [← bytesAt_cons]; exact k2⟩
      show feed st (escB (b k) ++ escs b (k + 1) f) = _
      rw [escB_self (b k) (by omega) (by omega) (by omega), feed_app _ _ _ _ hf, k1]
theorem strOf_size (l : List Nat) : (strOf l).size = l.length := by
  show (l.map UInt8.ofNat).toArray.size = _
  simp
theorem bt_strOf (l : List Nat) (h : ByteL l) (i : Nat) (hi : i < l.length) : bt (strOf l) i = l.getD i 0 := by
  rw [bt_in (by rw [strOf_size]; exact hi)]
  have h1 : (strOf l)[i]'(by rw [strOf_size]; exact hi) = UInt8.ofNat (l[i]) := by
    show (l.map UInt8.ofNat).toArray[i]'(by simpa using hi) = _
    simp
  rw [h1, u8n _ (h _ (List.getElem_mem hi))]
  simp [List.getD, hi]
/-- a text's own bytes -/
def bytesOf (s : ByteArray) : List Nat := bytesAt (bt s) 0 s.size
theorem strOf_bytes (s : ByteArray) : strOf (bytesOf s) = s := by
  apply ByteArray.ext
  apply Array.ext
  · show (strOf (bytesOf s)).size = s.size
    rw [strOf_size]; exact bytesAt_len _ _ _
  · intro i h1 h2
    have hi : i < s.size := h2
    have hlen : (bytesOf s).length = s.size := bytesAt_len _ _ _
    show ((bytesOf s).map UInt8.ofNat).toArray[i]'(by simp; omega) = s.data[i]
    simp only [List.getElem_toArray, List.getElem_map, bytesOf, bytesAt, List.getElem_range, Nat.zero_add]
    rw [bt_in hi]
    simp
    rfl
theorem back_law (s : ByteArray) (ht : isTextB s = true) : scanQ (litB s) 0 = .ok (bytesOf s, (litB s).size) := by
  rw [← scan_law (litB s) 0 (Nat.zero_le _)]
  have hby : ByteL (outB s s.size ++ [34]) := by
    intro x hx
    rcases List.mem_append.1 hx with hx | hx
    · exact outB_lt s s.size (Nat.le_refl _) x hx
    · simp at hx; omega
  have hout : outB s s.size = [34] ++ escs (bt s) 0 s.size := by
    have h := outB_escs s s.size 0
    rw [Nat.zero_add] at h
    rw [← h]; rfl
  have hsz : (litB s).size = (outB s s.size).length + 1 := by
    unfold litB
    rw [strOf_size, List.length_append]; rfl
  have hb : ∀ j, j < (outB s s.size).length → bt (litB s) (0 + j) = (outB s s.size).getD j 0 := by
    intro j hj
    unfold litB
    rw [Nat.zero_add, bt_strOf _ hby j (by rw [List.length_append]; omega)]
    simp [List.getD, List.getElem?_append_left hj]
  have hlast : bt (litB s) (outB s s.size).length = 34 := by
    unfold litB
    rw [bt_strOf _ hby _ (by rw [List.length_append]; simp)]
    simp [List.getD]
  obtain ⟨st', g1, g2, g3, g4⟩ := escs_run (bt s) s.size 0 0 0 0 { StZ with mode := 1 } [] ht rfl rfl (.inl ⟨rfl, rfl⟩)
  have hf : feed StZ (outB s s.size) = some st' := by
    rw [hout, feed_app [34] _ StZ { StZ with mode := 1 } rfl]
    exact g1
  unfold scanAt
  rw [scanG_feed (bt (litB s)) (litB s).size (outB s s.size) 0 StZ st' hb (by omega) hf, Nat.zero_add]
  have hs : stepF st' (bt (litB s) (outB s s.size).length) = ({ st' with mode := 7 }, true) := by
    rw [step1 st' _ g2, hlast]; rfl
  rw [scanG_end (bt (litB s)) (litB s).size (outB s s.size).length st' _ (by omega) hs rfl]
  show Except.ok (st'.text, _) = _
  rw [g4, hsz]
  rfl
end
end Go.Proofs.YtjfeebbhkolmoaaDoor.E
