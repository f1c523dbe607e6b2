/- Plain law: the program's Scanner amid a literal beside chapter 10's State. -/
import Derived.Test.YtjfeebbhkolmoaaDoorJeL
import Derived.Test.YtjfeebbhkolmoaaDoorJsF
import Derived.Test.YtjfeebbhkolmoaaDoorJsE
namespace Go.Proofs.YtjfeebbhkolmoaaDoor.E
open Go.RowKit
set_option linter.unusedVariables false

theorem hex_same (c : Nat) : digZ c = if hexD c = 16 then -1 else (hexD c : Int) := by
  unfold digZ hexD
  repeat' split
  all_goals omega

/-- amid a literal -/
def LitD (p : Sc) (r : St) : Prop :=
  (r.mode = 1 ∧ p.k = jText ∧ r.high = 0) ∨ (r.mode = 2 ∧ p.k = jStroke ∧ r.high = 0) ∨
    (r.mode = 3 ∧ p.k = jHex ∧ (p.left : Int) = r.left ∧ (p.unit : Int) = r.number ∧ p.pair = decide (0 < r.high)) ∨
    (r.mode = 4 ∧ p.k = jSecond ∧ 0 < r.high) ∨ (r.mode = 5 ∧ p.k = jLetter ∧ 0 < r.high) ∨
    (r.mode = 6 ∧ p.k = jFollow ∧ r.high = 0 ∧ (p.left : Int) = r.left ∧ p.low = r.low ∧ p.high = r.most)
structure LitE (p : Sc) (r : St) : Prop where
  dn : p.done = false
  ins : InS r
  d : LitD p r
/-- one byte more of both -/
def LRes (p : Sc) (r : St) (c : Nat) (a : Sc × Nat) : Prop :=
  ((stepF r c).2 = false → a.2 = 3) ∧ ((stepF r c).2 = true → (stepF r c).1.mode ≠ 7 → a.2 = 0 ∧ LitE a.1 (stepF r c).1 ∧ a.1.open_ = p.open_ ∧ a.1.key = p.key) ∧
  ((stepF r c).2 = true → (stepF r c).1.mode = 7 → a = ((if p.key = true then sTo p jColon false else sTo p jAfter true), 0))
theorem lit_no {p p' : Sc} {r r' : St} {c : Nat} (h : LitE p r) (hr : stepF r c = (r', false)) (hp : p'.open_ = p.open_) : LRes p r c (p', 3) := by
  unfold LRes
  rw [hr]
  exact ⟨fun _ => rfl, fun h => by simp at h, fun h => by simp at h⟩
theorem lit_go {p p' : Sc} {r r' : St} {c : Nat} (h : LitE p r) (hr : stepF r c = (r', true)) (h7 : r'.mode ≠ 7) (hp : p'.open_ = p.open_) (hd : p'.done = false) (hk : p'.key = p.key) (hl : LitD p' r') : LRes p r c (p', 0) := by
  have hi := (step_ok r c h.ins (by rw [hr])).1
  unfold LRes
  rw [hr] at hi ⊢
  exact ⟨fun h => by simp at h, fun _ _ => ⟨rfl, ⟨hd, hi, hl⟩, hp, hk⟩, fun _ h => absurd h h7⟩
theorem lit_end {p p' : Sc} {r r' : St} {c : Nat} (h : LitE p r) (hr : stepF r c = (r', true)) (h7 : r'.mode = 7) (hp : p' = if p.key = true then sTo p jColon false else sTo p jAfter true) : LRes p r c (p', 0) := by
  unfold LRes
  rw [hr]
  exact ⟨fun h => by simp at h, fun _ h => absurd h7 h, fun _ _ => by rw [hp]⟩

theorem sim_text (p : Sc) (r : St) (c : Nat) (h : LitE p r) (m : r.mode = 1) (hh : r.high = 0) (hk : p.k = jText) : LRes p r c (pText p c) := by
  have hs : stepF r c = inside r c := by unfold stepF; rw [if_neg (by omega), if_pos m]
  have hd : p.done = false := h.dn
  unfold inside at hs
  unfold pText
  by_cases h1 : c = 34
  · rw [if_pos h1] at hs ⊢
    exact (show LRes p r c ((if p.key = true then (sTo p jColon false, 0) else (sTo p jAfter true, 0)) : Sc × Nat) from by
      have := lit_end h hs rfl rfl
      by_cases hkey : p.key = true
      · rw [if_pos hkey] at this ⊢; exact this
      · rw [if_neg hkey] at this ⊢; exact this)
  rw [if_neg h1] at hs ⊢
  by_cases h2 : c = 92
  · rw [if_pos h2] at hs ⊢
    exact lit_go h hs (by show (2 : Int) ≠ 7; decide) rfl rfl rfl (.inr (.inl ⟨rfl, rfl, hh⟩))
  rw [if_neg h2] at hs ⊢
  by_cases h3 : c < 32
  · rw [if_pos (by omega)] at hs
    rw [if_pos h3]
    exact lit_no h hs rfl
  rw [if_neg h3]
  by_cases h4 : c < 128
  · rw [if_neg (by omega), if_pos h4] at hs
    rw [if_pos h4]
    exact lit_go h hs (by show r.mode ≠ 7; omega) rfl hd rfl (.inl ⟨m, hk, hh⟩)
  rw [if_neg h4]
  by_cases h5 : c < 194 ∨ 244 < c
  · rw [if_pos (by omega)] at hs
    rw [if_pos h5]
    exact lit_no h hs rfl
  · rw [if_neg (by omega), if_neg h4] at hs
    rw [if_neg h5]
    refine lit_go h hs (by show (6 : Int) ≠ 7; decide) rfl rfl rfl (.inr (.inr (.inr (.inr (.inr ⟨rfl, rfl, hh, ?_, rfl, rfl⟩)))))
    show (((if c < 224 then 1 else if c < 240 then 2 else 3 : Nat)) : Int) = if 240 ≤ c then 3 else if 224 ≤ c then 2 else 1
    repeat' split
    all_goals omega
theorem sim_stroke (p : Sc) (r : St) (c : Nat) (h : LitE p r) (m : r.mode = 2) (hh : r.high = 0) : LRes p r c (pStroke p c) := by
  have hs : stepF r c = strokeStep r c := by unfold stepF; rw [if_neg (by omega), if_neg (by omega), if_pos m]
  unfold strokeStep at hs
  unfold pStroke
  by_cases h1 : c = 34 ∨ c = 92 ∨ c = 47 ∨ c = 98 ∨ c = 102 ∨ c = 110 ∨ c = 114 ∨ c = 116
  · rw [if_pos h1]
    obtain ⟨x, hx⟩ : ∃ x, letM c = some x := by
      rcases h1 with h1 | h1 | h1 | h1 | h1 | h1 | h1 | h1 <;> (subst h1; exact ⟨_, rfl⟩)
    rw [hx] at hs
    exact lit_go h hs (by show (1 : Int) ≠ 7; decide) rfl rfl rfl (.inl ⟨rfl, rfl, hh⟩)
  · rw [if_neg h1]
    have hx : letM c = none := by
      unfold letM
      rw [if_neg (by omega), if_neg (by omega), if_neg (by omega), if_neg (by omega), if_neg (by omega), if_neg (by omega), if_neg (by omega), if_neg (by omega)]
    rw [hx] at hs
    by_cases h2 : c = 117
    · rw [if_pos h2]
      have hs : stepF r c = ({ r with mode := 3, left := 4, number := 0 }, true) := by rw [hs, h2]; rfl
      exact lit_go h hs (by show (3 : Int) ≠ 7; decide) rfl rfl rfl (.inr (.inr (.inl ⟨rfl, rfl, rfl, rfl, (by show false = decide (0 < r.high); rw [hh]; rfl)⟩)))
    · rw [if_neg h2]
      have hs : stepF r c = ({ r with mode := 3, left := 4, number := 0 }, false) := by rw [hs, decide_eq_false h2]
      exact lit_no h hs rfl
theorem sim_second (p : Sc) (r : St) (c : Nat) (h : LitE p r) (m : r.mode = 4) (hh : 0 < r.high) : LRes p r c (pSecond p c) := by
  have hs : stepF r c = ({ r with mode := 5 }, decide (c = 92)) := by unfold stepF; rw [if_neg (by omega), if_neg (by omega), if_neg (by omega), if_neg (by omega), if_pos m]
  unfold pSecond
  by_cases h2 : c = 92
  · rw [if_pos h2]
    rw [decide_eq_true h2] at hs
    exact lit_go h hs (by show (5 : Int) ≠ 7; decide) rfl rfl rfl (.inr (.inr (.inr (.inr (.inl ⟨rfl, rfl, hh⟩)))))
  · rw [if_neg h2]
    rw [decide_eq_false h2] at hs
    exact lit_no h hs rfl
theorem sim_letter (p : Sc) (r : St) (c : Nat) (h : LitE p r) (m : r.mode = 5) (hh : 0 < r.high) : LRes p r c (pLetter p c) := by
  have hs : stepF r c = ({ r with mode := 3, left := 4, number := 0 }, decide (c = 117)) := by unfold stepF; rw [if_neg (by omega), if_neg (by omega), if_neg (by omega), if_neg (by omega), if_neg (by omega), if_pos m]
  unfold pLetter
  by_cases h2 : c = 117
  · rw [if_pos h2]
    rw [decide_eq_true h2] at hs
    exact lit_go h hs (by show (3 : Int) ≠ 7; decide) rfl rfl rfl (.inr (.inr (.inl ⟨rfl, rfl, rfl, rfl, (by show true = decide (0 < r.high); rw [decide_eq_true hh])⟩)))
  · rw [if_neg h2]
    rw [decide_eq_false h2] at hs
    exact lit_no h hs rfl
theorem sim_follow (p : Sc) (r : St) (c : Nat) (h : LitE p r) (m : r.mode = 6) (hh : r.high = 0) (hk : p.k = jFollow) (hl : (p.left : Int) = r.left) (hlo : p.low = r.low) (hhi : p.high = r.most) : LRes p r c (pFollow p c) := by
  have hs : stepF r c = bytesStep r c := by unfold stepF; rw [if_neg (by omega), if_neg (by omega), if_neg (by omega), if_neg (by omega), if_neg (by omega), if_neg (by omega), if_pos m]
  have hd : p.done = false := h.dn
  have h6 := h.ins.2.2.2 m
  unfold bytesStep at hs
  unfold pFollow
  rw [hlo, hhi]
  by_cases h1 : c < r.low ∨ r.most < c
  · rw [if_pos h1] at hs ⊢
    exact lit_no h hs rfl
  rw [if_neg h1] at hs ⊢
  by_cases h2 : p.left = 1
  · rw [if_pos h2]
    rw [if_pos (by omega)] at hs
    exact lit_go h hs (by show (1 : Int) ≠ 7; decide) rfl rfl rfl (.inl ⟨rfl, rfl, hh⟩)
  · rw [if_neg h2]
    rw [if_neg (by omega)] at hs
    exact lit_go h hs (by show r.mode ≠ 7; omega) rfl hd rfl (.inr (.inr (.inr (.inr (.inr ⟨m, hk, hh, (by show ((p.left - 1 : Nat) : Int) = r.left - 1; omega), rfl, rfl⟩)))))
theorem sim_hex (p : Sc) (r : St) (c : Nat) (h : LitE p r) (m : r.mode = 3) (hk : p.k = jHex) (hl : (p.left : Int) = r.left) (hu : (p.unit : Int) = r.number) (hp : p.pair = decide (0 < r.high)) : LRes p r c (pHex p c) := by
  have hs : stepF r c = digitsStep r c := by unfold stepF; rw [if_neg (by omega), if_neg (by omega), if_neg (by omega), if_pos m]
  have hd : p.done = false := h.dn
  obtain ⟨-, hh, h3, -⟩ := h.ins
  obtain ⟨i1, i2, i3, i4, i5, i6, i7, i8⟩ := h3 m
  unfold InH at hh
  unfold digitsStep at hs
  rw [hex_same] at hs
  unfold pHex
  by_cases h16 : hexD c = 16
  · rw [if_pos h16]
    rw [if_pos h16, if_pos (by decide)] at hs
    exact lit_no h hs rfl
  rw [if_neg h16] at hs ⊢
  have hd16 := hexD_le c
  rw [if_neg (by omega)] at hs
  simp only []
  obtain ⟨u, hun⟩ : ∃ u, 16 * p.unit + hexD c = u := ⟨_, rfl⟩
  have hui : 16 * r.number + (hexD c : Int) = (u : Int) := by omega
  rw [hui] at hs
  rw [hun]
  have hpt : p.pair = true ↔ 0 < r.high := by rw [hp]; simp
  by_cases l4 : r.left = 4
  · rw [if_pos l4] at hs
    have hp4 : p.left = 4 := by omega
    by_cases hb : p.pair = true ∧ u ≠ 13
    · rw [if_pos ⟨hp4, hb⟩]
      rw [decide_eq_false (by have := hpt.1 hb.1; omega)] at hs
      exact lit_no h hs rfl
    · rw [if_neg (fun e => hb e.2), if_neg (fun e => by omega), if_pos (by omega)]
      rw [decide_eq_true (by rcases hh with hh | hh; · exact .inl hh
                             · right; have hp1 : p.pair = true := hpt.2 (by omega)
                               by_cases hu13 : u = 13
                               · omega
                               · exact absurd ⟨hp1, hu13⟩ hb)] at hs
      exact lit_go h hs (by show r.mode ≠ 7; omega) rfl hd rfl (.inr (.inr (.inl ⟨m, hk, (by show ((p.left - 1 : Nat) : Int) = 3; omega), rfl, hp⟩)))
  rw [if_neg l4] at hs
  rw [if_neg (by omega)]
  by_cases l3 : r.left = 3
  · rw [if_pos l3] at hs
    have hp3 : p.left = 3 := by omega
    have hq : (p.pair = decide (u / 4 = 55)) ↔ (r.high = 0 ↔ ¬ (220 ≤ (u : Int) ∧ (u : Int) ≤ 223)) := by
      rw [hp]
      by_cases h55 : u / 4 = 55
      · rw [decide_eq_true h55, decide_eq_true_iff]; omega
      · rw [decide_eq_false h55, decide_eq_false_iff_not]; omega
    by_cases hb : p.pair = decide (u / 4 = 55)
    · rw [if_neg (fun e => e.2 hb), if_pos (by omega)]
      rw [decide_eq_true (hq.1 hb)] at hs
      exact lit_go h hs (by show r.mode ≠ 7; omega) rfl hd rfl (.inr (.inr (.inl ⟨m, hk, (by show ((p.left - 1 : Nat) : Int) = 2; omega), rfl, hp⟩)))
    · rw [if_pos ⟨hp3, hb⟩]
      rw [decide_eq_false (fun e => hb (hq.2 e))] at hs
      exact lit_no h hs rfl
  rw [if_neg l3] at hs
  rw [if_neg (by omega)]
  by_cases l2 : r.left = 2
  · rw [if_pos l2] at hs
    rw [if_pos (by omega)]
    exact lit_go h hs (by show r.mode ≠ 7; omega) rfl hd rfl (.inr (.inr (.inl ⟨m, hk, (by show ((p.left - 1 : Nat) : Int) = 1; omega), rfl, hp⟩)))
  rw [if_neg l2] at hs
  rw [if_neg (by omega)]
  have l1 : r.left = 1 := by omega
  by_cases hhi : 0 < r.high
  · rw [if_pos hhi] at hs
    have := (i8 hhi).2 l1
    rw [if_neg (by omega)]
    exact lit_go h hs (by show (1 : Int) ≠ 7; decide) rfl rfl rfl (.inl ⟨rfl, rfl, rfl⟩)
  rw [if_neg hhi] at hs
  by_cases h54 : 55296 ≤ (u : Int) ∧ (u : Int) ≤ 56319
  · rw [if_pos h54] at hs
    rw [if_pos (by omega)]
    exact lit_go h hs (by show (4 : Int) ≠ 7; decide) rfl rfl rfl (.inr (.inr (.inr (.inl ⟨rfl, rfl, (by show 0 < (u : Int); omega)⟩))))
  · rw [if_neg h54] at hs
    rw [if_neg (by omega)]
    exact lit_go h hs (by show (1 : Int) ≠ 7; decide) rfl rfl rfl (.inl ⟨rfl, rfl, (by show r.high = 0; omega)⟩)


theorem lit_step (p : Sc) (r : St) (c : Nat) (h : LitE p r) : LRes p r c (pstep p c) := by
  rcases h.d with ⟨m, hk, hh⟩ | ⟨m, hk, hh⟩ | ⟨m, hk, hl, hu, hp⟩ | ⟨m, hk, hh⟩ | ⟨m, hk, hh⟩ | ⟨m, hk, hh, hl, hlo, hhi⟩
  · rw [ps_Text p c hk]; exact sim_text p r c h m hh hk
  · rw [ps_Stroke p c hk]; exact sim_stroke p r c h m hh
  · rw [ps_Hex p c hk]; exact sim_hex p r c h m hk hl hu hp
  · rw [ps_Second p c hk]; exact sim_second p r c h m hh
  · rw [ps_Letter p c hk]; exact sim_letter p r c h m hh
  · rw [ps_Follow p c hk]; exact sim_follow p r c h m hh hk hl hlo hhi

/-- what tells of a Scanner at the end of a text: no more is wanted, or the number and the place of an error -/
theorem LitE.tell {p : Sc} {r : St} (h : LitE p r) (b : Nat) (z : Int) : LitE (sTell p b z) r := ⟨h.dn, h.ins, h.d⟩
/-- how a run comes out: the place of what is wrong (or the end), or the state behind the literal -/
def LOut (p : Sc) (m : List Nat) (i : Nat) : Except Nat (List Nat × Nat) → Prop
  | .error j => i ≤ j ∧ j ≤ i + m.length ∧ pclose (pwrite p m) = 3 ∧ (pwrite p m).size = p.size + ((j - i : Nat) : Int)
  | .ok (_, j) => i < j ∧ j ≤ i + m.length ∧ (pwrite p (m.take (j - i))).bad = 0 ∧ (pwrite p (m.take (j - i))).size = p.size + ((j - i : Nat) : Int) ∧ (pwrite p (m.take (j - i))).open_ = p.open_ ∧ (pwrite p (m.take (j - i))).k = (if p.key = true then jColon else jAfter) ∧ (pwrite p (m.take (j - i))).done = !p.key
theorem lit_run (b : Nat → Nat) : ∀ (m : List Nat) (i : Nat) (p : Sc) (t : St), LitE p t → p.bad = 0 → (∀ k, k < m.length → b (i + k) = m.getD k 0) → LOut p m i (scanG b m.length i t) := by
  intro m
  induction m with
  | nil =>
    intro i p t h h0 hb
    show i ≤ i ∧ i ≤ i + 0 ∧ pclose p = 3 ∧ p.size = p.size + ((i - i : Nat) : Int)
    refine ⟨Nat.le_refl _, Nat.le_refl _, ?_, by omega⟩
    unfold pclose
    rw [if_pos h0, if_neg (by rw [h.dn]; simp)]
  | cons x m ih =>
    intro i p t h h0 hb
    have hx : b i = x := hb 0 (by simp)
    have hl := lit_step p t x h
    have hok := pstep_okc p x
    show LOut p (x :: m) i (if (stepF t (b i)).2 = false then .error i else if (stepF t (b i)).1.mode = 7 then .ok ((stepF t (b i)).1.text, i + 1) else scanG b m.length (i + 1) (stepF t (b i)).1)
    rw [hx]
    obtain ⟨l1, l2, l3⟩ := hl
    by_cases hs : (stepF t x).2 = false
    · rw [if_pos hs]
      have hp := l1 hs
      have hf := pfeed_no p (pstep p x).1 x 3 (by decide) h0 (by rw [← hp])
      have hw : pwrite p (x :: m) = sTell (pstep p x).1 3 (pstep p x).1.size := by
        show pwrite (pfeed p x) m = _
        rw [hf]; exact pwrite_bad _ _ (by show (3 : Nat) ≠ 0; decide)
      refine ⟨Nat.le_refl _, Nat.le_add_right _ _, ?_, ?_⟩
      · rw [hw]; unfold pclose; rw [if_neg (by show (3 : Nat) ≠ 0; decide)]; rfl
      · rw [hw]; show (pstep p x).1.size = _; rw [hok.2.1]; omega
    · rw [if_neg hs]
      have hs : (stepF t x).2 = true := by simpa using hs
      by_cases h7 : (stepF t x).1.mode = 7
      · rw [if_pos h7]
        have hp := l3 hs h7
        have hf := pfeed_ok p _ x h0 hp
        have hw : pwrite p ((x :: m).take (i + 1 - i)) = sTell (if p.key = true then sTo p jColon false else sTo p jAfter true) 0 ((if p.key = true then sTo p jColon false else sTo p jAfter true).size + 1) := by
          rw [show i + 1 - i = 1 by omega]
          show pwrite (pfeed p x) [] = _
          rw [hf]; rfl
        show i < i + 1 ∧ i + 1 ≤ i + (m.length + 1) ∧ (pwrite p ((x :: m).take (i + 1 - i))).bad = 0 ∧ (pwrite p ((x :: m).take (i + 1 - i))).size = p.size + ((i + 1 - i : Nat) : Int) ∧ (pwrite p ((x :: m).take (i + 1 - i))).open_ = p.open_ ∧ (pwrite p ((x :: m).take (i + 1 - i))).k = (if p.key = true then jColon else jAfter) ∧ (pwrite p ((x :: m).take (i + 1 - i))).done = !p.key
        rw [hw]
        refine ⟨by omega, by omega, rfl, ?_, ?_, ?_, ?_⟩
        · show (if p.key = true then sTo p jColon false else sTo p jAfter true).size + 1 = _
          split <;> (show p.size + 1 = _; omega)
        · show (if p.key = true then sTo p jColon false else sTo p jAfter true).open_ = _
          split <;> rfl
        · show (if p.key = true then sTo p jColon false else sTo p jAfter true).k = _
          split <;> rfl
        · show (if p.key = true then sTo p jColon false else sTo p jAfter true).done = _
          cases hk : p.key <;> rfl
      · rw [if_neg h7]
        obtain ⟨hp, hl', ho', hk'⟩ := l2 hs h7
        have hf := pfeed_ok p (pstep p x).1 x h0 (by rw [← hp])
        have ih' := ih (i + 1) (sTell (pstep p x).1 0 ((pstep p x).1.size + 1)) (stepF t x).1 (hl'.tell _ _) rfl (fun k hk => by
          have := hb (k + 1) (by simpa using hk)
          rw [show i + 1 + k = i + (k + 1) by omega, this]; simp)
        have hw : ∀ l, pwrite p (x :: l) = pwrite (sTell (pstep p x).1 0 ((pstep p x).1.size + 1)) l := by
          intro l
          show pwrite (pfeed p x) l = _
          rw [hf]
        have hz : (sTell (pstep p x).1 0 ((pstep p x).1.size + 1)).size = p.size + 1 := by show (pstep p x).1.size + 1 = _; rw [hok.2.1]
        rcases hr : scanG b m.length (i + 1) (stepF t x).1 with j | ⟨tx, j⟩
        · rw [hr] at ih'
          obtain ⟨e1, e2, e3, e4⟩ := ih'
          refine ⟨by omega, by simp only [List.length_cons]; omega, by rw [hw]; exact e3, ?_⟩
          rw [hw, e4, hz]; omega
        · rw [hr] at ih'
          obtain ⟨e1, e2, e3, e4, e5, e6, e7⟩ := ih'
          have ht : (x :: m).take (j - i) = x :: m.take (j - (i + 1)) := by
            rw [show j - i = (j - (i + 1)) + 1 by omega]; rfl
          refine ⟨by omega, by simp only [List.length_cons]; omega, ?_, ?_, ?_, ?_, ?_⟩
          · rw [ht, hw]; exact e3
          · rw [ht, hw, e4, hz]; omega
          · rw [ht, hw, e5]; exact ho'
          · rw [ht, hw, e6]; show (if (pstep p x).1.key = true then jColon else jAfter) = _; rw [hk']
          · rw [ht, hw, e7]; show (!(pstep p x).1.key) = _; rw [hk']
end Go.Proofs.YtjfeebbhkolmoaaDoor.E
