/- The plain law of chapter 10: what the program's Scan does is what the reference does byte by byte. -/
import Derived.Test.YtiignmjglihbnaaDoorUnquote
import Derived.Test.YtiignmjglihbnaaDoorRUnquote
namespace Go.Proofs.YtiignmjglihbnaaDoor
open Go.RowKit
set_option linter.unusedVariables false

theorem scanG_fail (b : Nat → Nat) (sz i : Nat) (st : St) (h : i < sz → (stepF st (b i)).2 = false) : scanG b (sz - i) i st = .error i := by
  by_cases hi : i < sz
  · obtain ⟨r, hr⟩ : ∃ r, sz - i = r + 1 := ⟨sz - i - 1, by omega⟩
    rw [hr, scanG, if_pos (h hi)]
  · rw [show sz - i = 0 by omega]; rfl
theorem scanG_go (b : Nat → Nat) (sz i : Nat) (st st2 : St) (hi : i < sz) (h : stepF st (b i) = (st2, true)) (hm : st2.mode ≠ 7) : scanG b (sz - i) i st = scanG b (sz - (i + 1)) (i + 1) st2 := by
  obtain ⟨r, hr⟩ : ∃ r, sz - i = r + 1 := ⟨sz - i - 1, by omega⟩
  have hr2 : sz - (i + 1) = r := by omega
  rw [hr, scanG, h, hr2]
  rw [if_neg (show ¬ ((st2, true).2 = false) from fun k => by cases k), if_neg (show ¬ ((st2, true).1.mode = 7) from hm)]
theorem scanG_end (b : Nat → Nat) (sz i : Nat) (st st2 : St) (hi : i < sz) (h : stepF st (b i) = (st2, true)) (hm : st2.mode = 7) : scanG b (sz - i) i st = .ok (st2.text, i + 1) := by
  obtain ⟨r, hr⟩ : ∃ r, sz - i = r + 1 := ⟨sz - i - 1, by omega⟩
  rw [hr, scanG, h]
  rw [if_neg (show ¬ ((st2, true).2 = false) from fun k => by cases k), if_pos (show (st2, true).1.mode = 7 from hm)]

theorem bytesAt_succ (b : Nat → Nat) (k n : Nat) : bytesAt b k (n + 1) = b k :: bytesAt b (k + 1) n := by
  unfold bytesAt
  rw [List.range_succ_eq_map, List.map_cons, List.map_map]
  congr 1
  apply List.map_congr_left
  intro j _
  show b (k + (j + 1)) = b (k + 1 + j)
  congr 1
  omega
theorem step6 (st : St) (c : Nat) (hm : st.mode = 6) : stepF st c = bytesStep st c := by
  unfold stepF
  rw [if_neg (by omega), if_neg (by omega), if_neg (by omega), if_neg (by omega), if_neg (by omega), if_neg (by omega), if_pos hm]

theorem cont_run (b : Nat → Nat) (sz k : Nat) : ∀ (l j lo hi : Nat) (st : St), st.mode = 6 → st.left = (((l + 1 : Nat)) : Int) → st.low = lo → st.most = hi → k + j ≤ sz →
    ((contN (fun j => b (k + j)) (sz - k) (l + 1) j lo hi).2 = false ∧ scanG b (sz - (k + j)) (k + j) st = .error (k + (contN (fun j => b (k + j)) (sz - k) (l + 1) j lo hi).1)) ∨
    ((contN (fun j => b (k + j)) (sz - k) (l + 1) j lo hi).2 = true ∧ (contN (fun j => b (k + j)) (sz - k) (l + 1) j lo hi).1 = j + (l + 1) ∧ k + j + (l + 1) ≤ sz ∧ ∃ st', st'.mode = 1 ∧ st'.high = st.high ∧ st'.text = st.text ++ bytesAt b (k + j) (l + 1) ∧ scanG b (sz - (k + j)) (k + j) st = scanG b (sz - (k + j + (l + 1))) (k + j + (l + 1)) st') := by
  intro l
  induction l with
  | zero =>
    intro j lo hi st hm hl hlo hhi hk
    by_cases q : j < sz - k ∧ lo ≤ b (k + j) ∧ b (k + j) ≤ hi
    · right
      have hc : contN (fun j => b (k + j)) (sz - k) (0 + 1) j lo hi = (j + 1, true) := by
        show (if j < sz - k ∧ lo ≤ b (k + j) ∧ b (k + j) ≤ hi then _ else _) = _
        rw [if_pos q]; rfl
      have hs : stepF st (b (k + j)) = ({ st with text := st.text ++ [b (k + j)], low := 128, most := 191, left := st.left - 1, mode := if st.left - 1 = 0 then 1 else st.mode }, true) := by
        rw [step6 st _ hm]; unfold bytesStep; rw [if_neg (by omega)]
      have hm2 : (if st.left - 1 = 0 then 1 else st.mode) = (1 : Int) := if_pos (by omega)
      rw [hc]
      refine ⟨rfl, rfl, by omega, { st with text := st.text ++ [b (k + j)], low := 128, most := 191, left := st.left - 1, mode := if st.left - 1 = 0 then 1 else st.mode }, hm2, rfl, (by show st.text ++ [b (k + j)] = _; rw [bytesAt_succ]; rfl), ?_⟩
      exact scanG_go b sz (k + j) st _ (by omega) hs (by show (if st.left - 1 = 0 then 1 else st.mode) ≠ (7 : Int); rw [hm2]; decide)
    · left
      have hc : contN (fun j => b (k + j)) (sz - k) (0 + 1) j lo hi = (j, false) := by
        show (if j < sz - k ∧ lo ≤ b (k + j) ∧ b (k + j) ≤ hi then _ else _) = _
        rw [if_neg q]
      rw [hc]
      refine ⟨rfl, scanG_fail b sz (k + j) st (fun hi' => ?_)⟩
      rw [step6 st _ hm]; unfold bytesStep; rw [if_pos (by omega)]
  | succ l ih =>
    intro j lo hi st hm hl hlo hhi hk
    by_cases q : j < sz - k ∧ lo ≤ b (k + j) ∧ b (k + j) ≤ hi
    · have hc : contN (fun j => b (k + j)) (sz - k) (l + 1 + 1) j lo hi = contN (fun j => b (k + j)) (sz - k) (l + 1) (j + 1) 128 191 := by
        show (if j < sz - k ∧ lo ≤ b (k + j) ∧ b (k + j) ≤ hi then _ else _) = _
        rw [if_pos q]
      have hs : stepF st (b (k + j)) = ({ st with text := st.text ++ [b (k + j)], low := 128, most := 191, left := st.left - 1, mode := if st.left - 1 = 0 then 1 else st.mode }, true) := by
        rw [step6 st _ hm]; unfold bytesStep; rw [if_neg (by omega)]
      have hm2 : (if st.left - 1 = 0 then 1 else st.mode) = (6 : Int) := by rw [if_neg (by omega)]; exact hm
      have hgo := scanG_go b sz (k + j) st _ (by omega) hs (by show (if st.left - 1 = 0 then 1 else st.mode) ≠ (7 : Int); rw [hm2]; decide)
      have h := ih (j + 1) 128 191 { st with text := st.text ++ [b (k + j)], low := 128, most := 191, left := st.left - 1, mode := if st.left - 1 = 0 then 1 else st.mode } hm2 (by show st.left - 1 = _; omega) rfl rfl (by omega)
      rw [hc, hgo]
      rcases h with ⟨h1, h2⟩ | ⟨h1, h2, h3, st', g1, g2, g3, g4⟩
      · left; exact ⟨h1, h2⟩
      · right
        refine ⟨h1, by omega, by omega, st', g1, g2, ?_, ?_⟩
        · rw [g3, bytesAt_succ b (k + j) (l + 1)]
          show st.text ++ [b (k + j)] ++ _ = _
          rw [List.append_assoc]; rfl
        · rw [show k + j + (l + 1 + 1) = k + (j + 1) + (l + 1) by omega]
          exact g4
    · left
      have hc : contN (fun j => b (k + j)) (sz - k) (l + 1 + 1) j lo hi = (j, false) := by
        show (if j < sz - k ∧ lo ≤ b (k + j) ∧ b (k + j) ≤ hi then _ else _) = _
        rw [if_neg q]
      rw [hc]
      refine ⟨rfl, scanG_fail b sz (k + j) st (fun hi' => ?_)⟩
      rw [step6 st _ hm]; unfold bytesStep; rw [if_pos (by omega)]

theorem step3 (st : St) (c : Nat) (hm : st.mode = 3) : stepF st c = digitsStep st c := by
  unfold stepF
  rw [if_neg (by omega), if_neg (by omega), if_neg (by omega), if_pos hm]
/-- what the last of four digits makes of a State -/
def FinS (st : St) (y : Nat) (st' : St) : Prop :=
  (0 < st.high → st'.mode = 1 ∧ st'.high = 0 ∧ st'.text = st.text ++ encN (65536 + (st.high - 55296) * 1024 + (y : Int) - 56320).toNat) ∧
  (st.high = 0 → (55296 ≤ y ∧ y ≤ 56319 → st'.mode = 4 ∧ st'.high = y ∧ st'.text = st.text) ∧ (¬ (55296 ≤ y ∧ y ≤ 56319) → st'.mode = 1 ∧ st'.high = 0 ∧ st'.text = st.text ++ encN y))
theorem dig_nat (c : Nat) (h : ¬ digZ c < 0) : digZ c = (digN c : Int) := by unfold digN; omega
/-- one digit ahead of the last -/
theorem dig_step (st : St) (c x f : Nat) (low : Bool) (hf : f ≤ 2) (hl : st.left = (((f + 2 : Nat)) : Int)) (hx : st.number = (x : Int)) (hh : InH st) (hlow : low = true ↔ 0 < st.high) (hd : ¬ digZ c < 0) :
    digitsStep st c = ({ st with number := (((16 * x + digN c : Nat)) : Int), left := (((f + 1 : Nat)) : Int) }, !(offU low (2 - f) (16 * x + digN c))) := by
  have hn : 16 * st.number + digZ c = (((16 * x + digN c : Nat)) : Int) := by rw [hx, dig_nat c hd]; omega
  unfold digitsStep
  rw [if_neg hd, hn]
  generalize 16 * x + digN c = m at *
  have h3 : f = 2 ∨ f = 1 ∨ f = 0 := by omega
  unfold InH at hh
  rcases h3 with rfl | rfl | rfl
  · rw [if_pos (by omega)]
    have : decide (st.high = 0 ∨ (m : Int) = 13) = !(offU low (2 - 2) m) := by
      unfold offU
      cases low with
      | false =>
        have : ¬ 0 < st.high := fun k => by have := hlow.2 k; cases this
        rw [decide_eq_true (show st.high = 0 ∨ (m : Int) = 13 by omega), decide_eq_false (by simp)]; rfl
      | true =>
        have : 0 < st.high := hlow.1 rfl
        by_cases k : m = 13
        · rw [decide_eq_true (show st.high = 0 ∨ (m : Int) = 13 by omega), decide_eq_false (by simp [k])]; rfl
        · rw [decide_eq_false (show ¬ (st.high = 0 ∨ (m : Int) = 13) by omega), decide_eq_true (by simp [k])]; rfl
    rw [this]; rfl
  · rw [if_neg (by omega), if_pos (by omega)]
    have : decide (st.high = 0 ↔ ¬ (220 ≤ (m : Int) ∧ (m : Int) ≤ 223)) = !(offU low (2 - 1) m) := by
      unfold offU
      by_cases k : 220 ≤ m ∧ m ≤ 223
      · cases low with
        | false =>
          have : ¬ 0 < st.high := fun k => by have := hlow.2 k; cases this
          rw [decide_eq_false (fun q => by have := q.1 (by omega); omega), decide_eq_true (.inr ⟨rfl, ⟨fun q => (by cases q), fun q => absurd k q⟩⟩)]; rfl
        | true =>
          have : 0 < st.high := hlow.1 rfl
          rw [decide_eq_true (show (st.high = 0 ↔ ¬ (220 ≤ (m : Int) ∧ (m : Int) ≤ 223)) from ⟨fun q => by omega, fun q => by omega⟩), decide_eq_false (fun q => by rcases q with ⟨q, -⟩ | ⟨-, q⟩; omega; exact (q.1 rfl) k)]; rfl
      · cases low with
        | false =>
          have : ¬ 0 < st.high := fun k => by have := hlow.2 k; cases this
          rw [decide_eq_true (show (st.high = 0 ↔ ¬ (220 ≤ (m : Int) ∧ (m : Int) ≤ 223)) from ⟨fun q => by omega, fun q => by omega⟩), decide_eq_false (fun q => by rcases q with ⟨q, -⟩ | ⟨-, q⟩; omega; exact absurd (q.2 k) (by decide))]; rfl
        | true =>
          have : 0 < st.high := hlow.1 rfl
          rw [decide_eq_false (fun q => by have := q.2 (by omega); omega), decide_eq_true (.inr ⟨rfl, ⟨fun _ => k, fun _ => rfl⟩⟩)]; rfl
    rw [this]; rfl
  · rw [if_neg (by omega), if_neg (by omega), if_pos (by omega)]
    have : offU low (2 - 0) m = false := decide_eq_false (by omega)
    rw [this]; rfl

theorem dig_run (b : Nat → Nat) (sz q : Nat) (low : Bool) (hout : ∀ j, sz ≤ j → b j = 256) : ∀ (f i x : Nat) (st : St), i + (f + 1) = 4 → st.mode = 3 → st.left = (((f + 1 : Nat)) : Int) → st.number = (x : Int) → InH st → (low = true ↔ 0 < st.high) → q + i ≤ sz →
    ((unitN (fun j => b (q + j)) low (f + 1) i x).2.2 = false ∧ scanG b (sz - (q + i)) (q + i) st = .error (q + (unitN (fun j => b (q + j)) low (f + 1) i x).2.1)) ∨
    ((unitN (fun j => b (q + j)) low (f + 1) i x).2.2 = true ∧ (unitN (fun j => b (q + j)) low (f + 1) i x).2.1 = 4 ∧ q + 4 ≤ sz ∧ ∃ st', FinS st (unitN (fun j => b (q + j)) low (f + 1) i x).1 st' ∧ scanG b (sz - (q + i)) (q + i) st = scanG b (sz - (q + 4)) (q + 4) st') := by
  intro f
  induction f with
  | zero =>
    intro i x st hi hm hl hx hh hlow hq
    obtain rfl : i = 3 := by omega
    have hu : ∀ r, (if digZ (b (q + 3)) < 0 then ((0, 3, false) : Nat × Nat × Bool) else if offU low 3 (16 * x + digN (b (q + 3))) = true then (0, 3, false) else (16 * x + digN (b (q + 3)), 4, true)) = r → unitN (fun j => b (q + j)) low (0 + 1) 3 x = r := fun r h => h
    have ho : offU low 3 (16 * x + digN (b (q + 3))) = false := decide_eq_false (by omega)
    by_cases hd : digZ (b (q + 3)) < 0
    · left
      rw [hu (0, 3, false) (if_pos hd)]
      refine ⟨rfl, scanG_fail b sz (q + 3) st (fun _ => ?_)⟩
      rw [step3 st _ hm]; unfold digitsStep; rw [if_pos hd]
    · right
      rw [hu (16 * x + digN (b (q + 3)), 4, true) (by rw [if_neg hd, if_neg (by rw [ho]; decide)])]
      have hlt : q + 3 < sz := by
        by_cases k : q + 3 < sz
        · exact k
        · rw [hout (q + 3) (by omega)] at hd; exact absurd (by decide) hd
      have hn : 16 * st.number + digZ (b (q + 3)) = (((16 * x + digN (b (q + 3)) : Nat)) : Int) := by rw [hx, dig_nat _ hd]; omega
      have hs := step3 st (b (q + 3)) hm
      unfold digitsStep at hs
      rw [if_neg hd, hn, if_neg (by omega), if_neg (by omega), if_neg (by omega)] at hs
      generalize 16 * x + digN (b (q + 3)) = m at *
      refine ⟨rfl, rfl, by omega, ?_⟩
      unfold InH at hh
      by_cases hp : 0 < st.high
      · rw [if_pos hp] at hs
        refine ⟨_, ?_, scanG_go b sz (q + 3) st _ hlt hs (show (1 : Int) ≠ 7 by decide)⟩
        exact ⟨fun _ => ⟨rfl, rfl, rfl⟩, fun k => by omega⟩
      · rw [if_neg hp] at hs
        by_cases hv : 55296 ≤ (m : Int) ∧ (m : Int) ≤ 56319
        · rw [if_pos hv] at hs
          refine ⟨_, ?_, scanG_go b sz (q + 3) st _ hlt hs (show (4 : Int) ≠ 7 by decide)⟩
          exact ⟨fun k => absurd k hp, fun _ => ⟨fun _ => ⟨rfl, rfl, rfl⟩, fun k => absurd (show 55296 ≤ m ∧ m ≤ 56319 by omega) k⟩⟩
        · rw [if_neg hv, Int.toNat_natCast] at hs
          refine ⟨_, ?_, scanG_go b sz (q + 3) st _ hlt hs (show (1 : Int) ≠ 7 by decide)⟩
          exact ⟨fun k => absurd k hp, fun k0 => ⟨fun k => absurd (show 55296 ≤ (m : Int) ∧ (m : Int) ≤ 56319 by omega) hv, fun _ => ⟨rfl, k0, rfl⟩⟩⟩
  | succ f ih =>
    intro i x st hi hm hl hx hh hlow hq
    obtain rfl : i = 2 - f := by omega
    have hu : ∀ r, (if digZ (b (q + (2 - f))) < 0 then ((0, 2 - f, false) : Nat × Nat × Bool) else if offU low (2 - f) (16 * x + digN (b (q + (2 - f)))) = true then (0, 2 - f, false) else unitN (fun j => b (q + j)) low (f + 1) (2 - f + 1) (16 * x + digN (b (q + (2 - f))))) = r → unitN (fun j => b (q + j)) low (f + 1 + 1) (2 - f) x = r := fun r h => h
    by_cases hd : digZ (b (q + (2 - f))) < 0
    · left
      rw [hu (0, 2 - f, false) (if_pos hd)]
      refine ⟨rfl, scanG_fail b sz (q + (2 - f)) st (fun _ => ?_)⟩
      rw [step3 st _ hm]; unfold digitsStep; rw [if_pos hd]
    · have hlt : q + (2 - f) < sz := by
        by_cases k : q + (2 - f) < sz
        · exact k
        · rw [hout (q + (2 - f)) (by omega)] at hd; exact absurd (by decide) hd
      have hs := step3 st (b (q + (2 - f))) hm
      rw [dig_step st (b (q + (2 - f))) x f low (by omega) hl hx hh hlow hd] at hs
      generalize 16 * x + digN (b (q + (2 - f))) = m at *
      by_cases ho : offU low (2 - f) m = true
      · left
        rw [hu (0, 2 - f, false) (by rw [if_neg hd, if_pos ho])]
        refine ⟨rfl, scanG_fail b sz (q + (2 - f)) st (fun _ => ?_)⟩
        rw [hs, ho]; rfl
      · rw [hu _ (by rw [if_neg hd, if_neg ho])]
        have ho' : (!(offU low (2 - f) m)) = true := by simpa using ho
        rw [ho'] at hs
        have hgo := scanG_go b sz (q + (2 - f)) st _ hlt hs (by show st.mode ≠ 7; omega)
        have h := ih (2 - f + 1) m { st with number := (m : Int), left := (((f + 1 : Nat)) : Int) } (by omega) hm rfl rfl hh hlow (by omega)
        rw [show q + (2 - f) + 1 = q + (2 - f + 1) by omega] at hgo
        rw [hgo]
        rcases h with ⟨h1, h2⟩ | ⟨h1, h2, h3, st', h4, h5⟩
        · left; exact ⟨h1, h2⟩
        · right; exact ⟨h1, h2, h3, st', h4, h5⟩

theorem step1 (st : St) (c : Nat) (hm : st.mode = 1) : stepF st c = inside st c := by
  unfold stepF
  rw [if_neg (by omega), if_pos hm]
theorem step2 (st : St) (c : Nat) (hm : st.mode = 2) : stepF st c = strokeStep st c := by
  unfold stepF
  rw [if_neg (by omega), if_neg (by omega), if_pos hm]
theorem step4 (st : St) (c : Nat) (hm : st.mode = 4) : stepF st c = ({ st with mode := 5 }, decide (c = 92)) := by
  unfold stepF
  rw [if_neg (by omega), if_neg (by omega), if_neg (by omega), if_neg (by omega), if_pos hm]
theorem step5 (st : St) (c : Nat) (hm : st.mode = 5) : stepF st c = ({ st with mode := 3, left := 4, number := 0 }, decide (c = 117)) := by
  unfold stepF
  rw [if_neg (by omega), if_neg (by omega), if_neg (by omega), if_neg (by omega), if_neg (by omega), if_pos hm]

/-- behind a backslash that stands at i -/
theorem stroke_run (b : Nat → Nat) (sz i : Nat) (hout : ∀ j, sz ≤ j → b j = 256) (hi : i < sz) (st : St) (hm : st.mode = 2) (hh : st.high = 0) :
    ((strokeN (fun j => b (i + j))).2.2 = false ∧ scanG b (sz - (i + 1)) (i + 1) st = .error (i + (strokeN (fun j => b (i + j))).2.1)) ∨
    ((strokeN (fun j => b (i + j))).2.2 = true ∧ i + (strokeN (fun j => b (i + j))).2.1 ≤ sz ∧ ∃ st', st'.mode = 1 ∧ st'.high = 0 ∧ st'.text = st.text ++ (strokeN (fun j => b (i + j))).1 ∧ scanG b (sz - (i + 1)) (i + 1) st = scanG b (sz - (i + (strokeN (fun j => b (i + j))).2.1)) (i + (strokeN (fun j => b (i + j))).2.1) st') := by
  have hs2 := step2 st (b (i + 1)) hm
  unfold strokeStep at hs2
  cases hL : letM (b (i + 1)) with
  | some m =>
    rw [hL] at hs2
    have hlt : i + 1 < sz := by
      by_cases k : i + 1 < sz
      · exact k
      · rw [hout (i + 1) (by omega)] at hL; exact absurd (show letM 256 = none by rfl) (by rw [hL]; simp)
    have hN : strokeN (fun j => b (i + j)) = ([m], 2, true) := by unfold strokeN; rw [hL]
    rw [hN]
    right
    exact ⟨rfl, by show i + 2 ≤ sz; omega, { st with mode := 1, text := st.text ++ [m] }, rfl, hh, rfl, scanG_go b sz (i + 1) st _ hlt hs2 (show (1 : Int) ≠ 7 by decide)⟩
  | none =>
    rw [hL] at hs2
    by_cases h117 : b (i + 1) = 117
    · have hlt : i + 1 < sz := by
        by_cases k : i + 1 < sz
        · exact k
        · rw [hout (i + 1) (by omega)] at h117; omega
      have hs2' : stepF st (b (i + 1)) = ({ st with mode := 3, left := 4, number := 0 }, true) := by rw [hs2, decide_eq_true h117]
      have hgo := scanG_go b sz (i + 1) st _ hlt hs2' (show (3 : Int) ≠ 7 by decide)
      rw [hgo]
      have hfun : (fun j => b (i + (2 + j))) = (fun j => b (i + 2 + j)) := by funext j; rw [Nat.add_assoc]
      have h := dig_run b sz (i + 2) false hout 3 0 0 { st with mode := 3, left := 4, number := 0 } rfl rfl rfl rfl (.inl hh) ⟨fun k => (by cases k), fun k => absurd (show (0 : Int) < st.high from k) (by omega)⟩ (by omega)
      rw [← hfun] at h
      have hN1 := fun x n hu => sN_1 (fun j => b (i + j)) x n h117 hu
      have hN2 := fun x n hu => sN_2 (fun j => b (i + j)) x n h117 hu
      have hN3 := fun x n hu => sN_3 (fun j => b (i + j)) x n h117 hu
      have hN4 := fun x n hu => sN_4 (fun j => b (i + j)) x n h117 hu
      have hN5 := fun x n hu => sN_5 (fun j => b (i + j)) x n h117 hu
      have hN6 := fun x n hu => sN_6 (fun j => b (i + j)) x n h117 hu
      have hU := unit_free (fun j => b (i + (2 + j)))
      generalize unitN (fun j => b (i + (2 + j))) false 4 0 0 = u at *
      obtain ⟨x, n, ok⟩ := u
      rcases h with ⟨h1, h2⟩ | ⟨h1, h2, h3, st', hF, h5⟩
      · left
        obtain rfl : ok = false := h1
        rw [hN1 x n rfl]
        exact ⟨rfl, by rw [show i + 1 + 1 = i + 2 + 0 by omega, h2]; show Except.error (i + 2 + n) = Except.error (i + (2 + n)); rw [Nat.add_assoc]⟩
      · obtain rfl : ok = true := h1
        obtain ⟨hx1, hx2, rfl⟩ := hU x n rfl
        have h5' : scanG b (sz - (i + 1 + 1)) (i + 1 + 1) { st with mode := 3, left := 4, number := 0 } = scanG b (sz - (i + 6)) (i + 6) st' := by
          rw [show i + 1 + 1 = i + 2 + 0 by omega, h5, show i + 2 + 4 = i + 6 by omega]
        rw [h5']
        have hF0 := hF.2 hh
        by_cases h54 : x / 1024 = 54
        · obtain ⟨g1, g2, g3⟩ := hF0.1 (by show 55296 ≤ x ∧ x ≤ 56319; omega)
          by_cases h6 : b (i + 6) = 92
          · have hlt6 : i + 6 < sz := by
              by_cases k : i + 6 < sz
              · exact k
              · rw [hout (i + 6) (by omega)] at h6; omega
            have hs6 : stepF st' (b (i + 6)) = ({ st' with mode := 5 }, true) := by rw [step4 st' _ g1, decide_eq_true h6]
            rw [scanG_go b sz (i + 6) st' _ hlt6 hs6 (show (5 : Int) ≠ 7 by decide), show i + 6 + 1 = i + 7 by omega]
            by_cases h7 : b (i + 7) = 117
            · have hlt7 : i + 7 < sz := by
                by_cases k : i + 7 < sz
                · exact k
                · rw [hout (i + 7) (by omega)] at h7; omega
              have hs7 : stepF { st' with mode := 5 } (b (i + 7)) = ({ st' with mode := 3, left := 4, number := 0 }, true) := by rw [step5 { st' with mode := 5 } _ rfl, decide_eq_true h7]
              rw [scanG_go b sz (i + 7) _ _ hlt7 hs7 (show (3 : Int) ≠ 7 by decide), show i + 7 + 1 = i + 8 + 0 by omega]
              have hfun2 : (fun j => b (i + (8 + j))) = (fun j => b (i + 8 + j)) := by funext j; rw [Nat.add_assoc]
              have hp : 0 < st'.high := by rw [g2]; show (0 : Int) < (x : Int); omega
              have h' := dig_run b sz (i + 8) true hout 3 0 0 { st' with mode := 3, left := 4, number := 0 } rfl rfl rfl rfl (.inr (by show 55296 ≤ st'.high ∧ st'.high ≤ 56319; rw [g2]; show 55296 ≤ (x : Int) ∧ (x : Int) ≤ 56319; omega)) ⟨fun _ => hp, fun _ => rfl⟩ (by omega)
              rw [← hfun2] at h'
              have hV := unit_low (fun j => b (i + (8 + j)))
              have hN5 := hN5 x 4 rfl h54 h6 h7
              have hN6 := hN6 x 4 rfl h54 h6 h7
              generalize unitN (fun j => b (i + (8 + j))) true 4 0 0 = v at *
              obtain ⟨y, m, ok2⟩ := v
              rcases h' with ⟨k1, k2⟩ | ⟨k1, k2, k3, st2, hF2, k5⟩
              · left
                obtain rfl : ok2 = false := k1
                rw [hN5 y m rfl, k2]
                exact ⟨rfl, by show Except.error (i + 8 + m) = Except.error (i + (8 + m)); rw [Nat.add_assoc]⟩
              · right
                obtain rfl : ok2 = true := k1
                obtain ⟨hy1, hy2, rfl⟩ := hV y m rfl
                obtain ⟨f1, f2, f3⟩ := hF2.1 hp
                obtain ⟨Rr, hRr⟩ : ∃ R, 65536 + (x - 55296) * 1024 + y - 56320 = R := ⟨_, rfl⟩
                have hRz : (65536 + ((x : Int) - 55296) * 1024 + (y : Int) - 56320).toNat = Rr := by omega
                have hNN := hN6 y 4 rfl
                rw [hRr] at hNN
                rw [hNN, k5]
                refine ⟨rfl, by show i + 12 ≤ sz; omega, st2, f1, f2, ?_, by show scanG b (sz - (i + 8 + 4)) (i + 8 + 4) st2 = scanG b (sz - (i + 12)) (i + 12) st2; rw [show i + 8 + 4 = i + 12 by omega]⟩
                rw [f3]
                show st'.text ++ encN (65536 + (st'.high - 55296) * 1024 + (y : Int) - 56320).toNat = st.text ++ encN Rr
                rw [g3, g2, hRz]
            · left
              rw [hN4 x 4 rfl h54 h6 h7]
              exact ⟨rfl, scanG_fail b sz (i + 7) _ (fun _ => by rw [step5 { st' with mode := 5 } _ rfl, decide_eq_false h7])⟩
          · left
            rw [hN3 x 4 rfl h54 h6]
            exact ⟨rfl, scanG_fail b sz (i + 6) _ (fun _ => by rw [step4 st' _ g1, decide_eq_false h6])⟩
        · right
          obtain ⟨g1, g2, g3⟩ := hF0.2 (by show ¬ (55296 ≤ x ∧ x ≤ 56319); omega)
          rw [hN2 x 4 rfl h54]
          exact ⟨rfl, by show i + 6 ≤ sz; omega, st', g1, g2, g3, rfl⟩
    · left
      have hN : strokeN (fun j => b (i + j)) = ([], 1, false) := by unfold strokeN; rw [hL]; exact if_pos h117
      rw [hN]
      exact ⟨rfl, scanG_fail b sz (i + 1) st (fun _ => by rw [hs2, decide_eq_false h117])⟩

theorem inside_hi (c : Nat) (h : 194 ≤ c) (h' : c ≤ 244) (st : St) : ∃ l, moreB c = l + 1 ∧ inside st c = ({ st with text := st.text ++ [c], mode := 6, low := loB c, most := hiB c, left := (((l + 1 : Nat)) : Int) }, true) := by
  have hm := moreB_le c
  refine ⟨moreB c - 1, by omega, ?_⟩
  unfold inside
  rw [if_neg (by omega), if_neg (by omega), if_neg (by omega), if_neg (by omega)]
  have : (if 240 ≤ c then (3 : Int) else if 224 ≤ c then 2 else 1) = (((moreB c - 1 + 1 : Nat)) : Int) := by
    unfold moreB
    by_cases k : 240 ≤ c
    · rw [if_pos k, if_pos k]; rfl
    · rw [if_neg k, if_neg k]
      by_cases q : 224 ≤ c
      · rw [if_pos q, if_pos q]; rfl
      · rw [if_neg q, if_neg q]; rfl
  rw [this]

theorem run_main (b : Nat → Nat) (sz : Nat) (hout : ∀ j, sz ≤ j → b j = 256) : ∀ (F i : Nat) (st : St) (t : List Nat), i ≤ sz → sz < i + F → st.mode = 1 → st.high = 0 → st.text = t → scanG b (sz - i) i st = scanP b sz F i t := by
  intro F
  induction F with
  | zero => intro i st t h1 h2; omega
  | succ F ih =>
    intro i st t h1 h2 hm hh ht
    rw [scanP]
    by_cases hi : i < sz
    · rw [if_neg (by omega)]
      have hs := step1 st (b i) hm
      by_cases h34 : b i = 34
      · rw [if_pos h34]
        have hs' : stepF st (b i) = ({ st with mode := 7 }, true) := by rw [hs]; unfold inside; rw [if_pos h34]
        rw [scanG_end b sz i st _ hi hs' rfl]
        show Except.ok (st.text, i + 1) = _
        rw [ht]
      rw [if_neg h34]
      by_cases h92 : b i = 92
      · have hp : pieceN b sz i = strokeN (fun j => b (i + j)) := by unfold pieceN; rw [if_pos h92]
        rw [hp]
        have hs' : stepF st (b i) = ({ st with mode := 2 }, true) := by rw [hs]; unfold inside; rw [if_neg h34, if_pos h92]
        rw [scanG_go b sz i st _ hi hs' (show (2 : Int) ≠ 7 by decide)]
        have hle := strokeN_le (fun j => b (i + j))
        have h := stroke_run b sz i hout hi { st with mode := 2 } rfl hh
        generalize strokeN (fun j => b (i + j)) = p at *
        rcases h with ⟨k1, k2⟩ | ⟨k1, k2, st', g1, g2, g3, g4⟩
        · rw [k2, if_pos k1]
        · rw [g4, if_neg (by rw [k1]; decide)]
          exact ih (i + p.2.1) st' (t ++ p.1) k2 (by omega) g1 g2 (by rw [g3, ← ht])
      by_cases hmid : 32 ≤ b i ∧ b i ≤ 127
      · have hp : pieceN b sz i = ([b i], 1, true) := by unfold pieceN; rw [if_neg h92, if_pos hmid]
        rw [hp, if_neg (show ¬ ((([b i], 1, true) : List Nat × Nat × Bool).2.2 = false) from fun k => by cases k)]
        have hs' : stepF st (b i) = ({ st with text := st.text ++ [b i] }, true) := by rw [hs]; unfold inside; rw [if_neg h34, if_neg h92, if_neg (by omega), if_pos (by omega)]
        rw [scanG_go b sz i st _ hi hs' (by show st.mode ≠ 7; omega)]
        exact ih (i + 1) _ (t ++ [b i]) (by omega) (by omega) hm hh (by show st.text ++ [b i] = _; rw [ht])
      · have hp : pieceN b sz i = (bytesAt b i (pointN (fun j => b (i + j)) (sz - i)).1, (pointN (fun j => b (i + j)) (sz - i)).1, (pointN (fun j => b (i + j)) (sz - i)).2) := by unfold pieceN; rw [if_neg h92, if_neg hmid]
        rw [hp]
        show _ = (if (pointN (fun j => b (i + j)) (sz - i)).2 = false then _ else _)
        by_cases hr : 194 ≤ b i ∧ b i ≤ 244
        · obtain ⟨l, hl, hin⟩ := inside_hi (b i) hr.1 hr.2 st
          have hpt : pointN (fun j => b (i + j)) (sz - i) = contN (fun j => b (i + j)) (sz - i) (l + 1) 1 (loB (b i)) (hiB (b i)) := by
            unfold pointN
            show (if b i < 194 ∨ 244 < b i then _ else contN (fun j => b (i + j)) (sz - i) (moreB (b i)) 1 (loB (b i)) (hiB (b i))) = _
            rw [if_neg (by omega), hl]
          rw [hpt]
          rw [hin] at hs
          rw [scanG_go b sz i st _ hi hs (show (6 : Int) ≠ 7 by decide)]
          have h := cont_run b sz i l 1 (loB (b i)) (hiB (b i)) { st with text := st.text ++ [b i], mode := 6, low := loB (b i), most := hiB (b i), left := (((l + 1 : Nat)) : Int) } rfl rfl rfl rfl (by omega)
          rcases h with ⟨k1, k2⟩ | ⟨k1, k2, k3, st', g1, g2, g3, g4⟩
          · rw [k2, if_pos k1]
          · rw [g4, if_neg (by rw [k1]; decide), k2]
            rw [show i + 1 + (l + 1) = i + (1 + (l + 1)) by omega]
            refine ih (i + (1 + (l + 1))) st' _ (by omega) (by omega) g1 (by rw [g2]; exact hh) ?_
            rw [g3, show 1 + (l + 1) = (l + 1) + 1 by omega, bytesAt_succ b i (l + 1)]
            show st.text ++ [b i] ++ _ = _
            rw [ht, List.append_assoc]; rfl
        · have hpt : pointN (fun j => b (i + j)) (sz - i) = (0, false) := by
            unfold pointN
            show (if b i < 194 ∨ 244 < b i then _ else _) = _
            rw [if_pos (by omega)]
          rw [hpt, if_pos (show ((0, false) : Nat × Bool).2 = false from rfl)]
          exact scanG_fail b sz i st (fun _ => by rw [hs]; unfold inside; rw [if_neg h34, if_neg h92, if_pos (by omega)])
    · obtain rfl : i = sz := by omega
      rw [if_pos (Nat.le_refl _), Nat.sub_self]
      rfl

theorem scan_law (s : ByteArray) (a : Nat) (h : a ≤ s.size) : scanAt s a = scanQ s a := by
  unfold scanAt scanQ
  by_cases k : s.size ≤ a ∨ bt s a ≠ 34
  · rw [if_pos k]
    exact scanG_fail (bt s) s.size a StZ (fun hlt => by
      rcases k with k | k
      · omega
      · unfold stepF
        rw [if_pos (show StZ.mode = 0 from rfl)]
        exact decide_eq_false k)
  · rw [if_neg k]
    have hlt : a < s.size := by omega
    have h34 : bt s a = 34 := by omega
    have hs : stepF StZ (bt s a) = ({ StZ with mode := 1 }, true) := by
      unfold stepF
      rw [if_pos (show StZ.mode = 0 from rfl), decide_eq_true h34]
    rw [scanG_go (bt s) s.size a StZ _ hlt hs (show (1 : Int) ≠ 7 by decide)]
    exact run_main (bt s) s.size (fun j hj => bt_out hj) (s.size + 20) (a + 1) _ [] (by omega) (by omega) rfl rfl rfl
end Go.Proofs.YtiignmjglihbnaaDoor
