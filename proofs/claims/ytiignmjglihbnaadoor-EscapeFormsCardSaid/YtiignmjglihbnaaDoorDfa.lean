/- The plain law of texts: byte by byte, and code point by code point. No program in sight. -/
import Derived.Test.YtiignmjglihbnaaDoorFirst0
namespace Go.Proofs.YtiignmjglihbnaaDoor

/-- so many bytes are to come behind a first one -/
def moreB (c : Nat) : Nat := if 240 ≤ c then 3 else if 224 ≤ c then 2 else 1
/-- byte by byte: f bytes are left, from place i on; so many of an encoding are due, the next within these ends -/
def runB (b : Nat → Nat) : Nat → Nat → Nat → Nat → Nat → Bool
  | 0, _, left, _, _ => left == 0
  | f + 1, i, left, lo, hi =>
    if left = 0 then
      if b i < 128 then runB b f (i + 1) 0 lo hi
      else if b i < 194 ∨ 244 < b i then false
      else runB b f (i + 1) (moreB (b i)) (loB (b i)) (hiB (b i))
    else if b i < lo ∨ hi < b i then false
    else runB b f (i + 1) (left - 1) 128 191

/-- code point by code point: the place of the first byte that begins none -/
def badF (b : Nat → Nat) (len : Nat) : Nat → Nat → Nat
  | 0, i => i
  | f + 1, i => if i < len then (if nx b i = 0 then i else badF b len f (i + nx b i)) else i

theorem run_due (b : Nat → Nat) (f i k lo hi : Nat) : runB b (f + 1) i (k + 1) lo hi = (decide (lo ≤ b i ∧ b i ≤ hi) && runB b f (i + 1) k 128 191) := by
  have e : runB b (f + 1) i (k + 1) lo hi = if k + 1 = 0 then _ else if b i < lo ∨ hi < b i then false else runB b f (i + 1) (k + 1 - 1) 128 191 := rfl
  rw [e, if_neg (by omega), Nat.add_sub_cancel]
  by_cases h : b i < lo ∨ hi < b i
  · rw [if_pos h, decide_eq_false (by omega), Bool.false_and]
  · rw [if_neg h, decide_eq_true (by omega), Bool.true_and]
theorem run_zero_due (b : Nat → Nat) (i k lo hi : Nat) : runB b 0 i (k + 1) lo hi = false := rfl
theorem run_free (b : Nat → Nat) (f i lo hi : Nat) : runB b (f + 1) i 0 lo hi = if b i < 128 then runB b f (i + 1) 0 lo hi else if b i < 194 ∨ 244 < b i then false else runB b f (i + 1) (moreB (b i)) (loB (b i)) (hiB (b i)) := rfl

theorem cont_le (c : Nat) : cont c = decide (128 ≤ c ∧ c ≤ 191) := by
  unfold cont
  rw [Bool.eq_iff_iff, decide_eq_true_iff, decide_eq_true_iff]; omega

theorem run_bad (b : Nat → Nat) (len : Nat) (hout : ∀ j, len ≤ j → b j = 256) : ∀ f i lo hi, i ≤ len → len - i ≤ f → runB b (len - i) i 0 lo hi = decide (badF b len f i = len) := by
  intro f
  induction f using Nat.strongRecOn with
  | ind f ih =>
    intro i lo hi h1 h2
    by_cases hlt : i < len
    · obtain ⟨f', rfl⟩ : ∃ f', f = f' + 1 := ⟨f - 1, by omega⟩
      have hb : badF b len (f' + 1) i = if nx b i = 0 then i else badF b len f' (i + nx b i) := by
        show (if i < len then _ else _) = _
        rw [if_pos hlt]
      obtain ⟨r, hr⟩ : ∃ r, len - i = r + 1 := ⟨len - i - 1, by omega⟩
      rw [hb, hr, run_free]
      have no : decide (i = len) = false := decide_eq_false (by omega)
      by_cases c1 : b i < 128
      · have hn : nx b i = 1 := by unfold nx; rw [if_pos c1]
        rw [if_pos c1, hn, if_neg (by decide), show r = len - (i + 1) from by omega]
        exact ih f' (by omega) (i + 1) lo hi (by omega) (by omega)
      rw [if_neg c1]
      by_cases c2 : b i < 194 ∨ 244 < b i
      · have hn : nx b i = 0 := by unfold nx; rw [if_neg c1, if_neg (by omega), if_neg (by omega), if_neg (by omega)]
        rw [if_pos c2, hn, if_pos rfl, no]
      rw [if_neg c2]
      have fin : ∀ (ok : Bool) (k : Nat), 0 < k → (ok = true → i + k ≤ len) → nx b i = (if ok = true then k else 0) → (ok && runB b (len - (i + k)) (i + k) 0 128 191) = decide ((if nx b i = 0 then i else badF b len f' (i + nx b i)) = len) := by
        intro ok k hk hle hn
        rw [hn]
        cases ok
        · simp only [Bool.false_eq_true, if_false, if_true, Bool.false_and, no]
        · simp only [if_true, Bool.true_and]
          rw [if_neg (by omega)]
          exact ih f' (by omega) (i + k) 128 191 (hle rfl) (by omega)
      by_cases c3 : b i < 224
      · have hm : moreB (b i) = 1 := by unfold moreB; rw [if_neg (by omega), if_neg (by omega)]
        have hlo : loB (b i) = 128 := by unfold loB; rw [if_neg (by omega), if_neg (by omega)]
        have hhi : hiB (b i) = 191 := by unfold hiB; rw [if_neg (by omega), if_neg (by omega)]
        have hn : nx b i = if cont (b (i + 1)) = true then 2 else 0 := by unfold nx; rw [if_neg c1, if_pos (by omega)]
        rw [hm, hlo, hhi]
        refine Eq.trans ?_ (fin (cont (b (i + 1))) 2 (by decide) ?_ hn)
        · cases r with
          | zero =>
            rw [run_zero_due, cont_le, hout (i + 1) (by omega)]; rfl
          | succ r =>
            rw [run_due, cont_le, show len - (i + 2) = r from by omega]
        · intro k
          rcases Nat.lt_or_ge (i + 1) len with g | g
          · omega
          · rw [hout _ g] at k; exact absurd k (by decide)
      by_cases c4 : b i < 240
      · have hm : moreB (b i) = 2 := by unfold moreB; rw [if_neg (by omega), if_pos (by omega)]
        have hn : nx b i = if (decide (loB (b i) ≤ b (i + 1) ∧ b (i + 1) ≤ hiB (b i)) && cont (b (i + 2))) = true then 3 else 0 := by
          unfold nx; rw [if_neg c1, if_neg (by omega), if_pos (by omega)]; simp only [Bool.and_eq_true, decide_eq_true_eq]
        have hh := (hi_le (b i) 256).1
        rw [hm]
        refine Eq.trans ?_ (fin _ 3 (by decide) ?_ hn)
        · cases r with
          | zero =>
            rw [run_zero_due, hout (i + 1) (by omega), decide_eq_false (by intro k; have := hh k.2; omega)]; rfl
          | succ r =>
            rw [run_due]
            cases r with
            | zero =>
              rw [run_zero_due, show i + 1 + 1 = i + 2 from rfl, hout (i + 2) (by omega)]
              simp [cont]
            | succ r =>
              rw [run_due, cont_le, show len - (i + 3) = r from by omega, Bool.and_assoc]
        · intro k
          rw [Bool.and_eq_true] at k
          rcases Nat.lt_or_ge (i + 2) len with g | g
          · omega
          · rw [hout _ g] at k; exact absurd k.2 (by decide)
      · have hm : moreB (b i) = 3 := by unfold moreB; rw [if_pos (by omega)]
        have hn : nx b i = if (decide (loB (b i) ≤ b (i + 1) ∧ b (i + 1) ≤ hiB (b i)) && (cont (b (i + 2)) && cont (b (i + 3)))) = true then 4 else 0 := by
          unfold nx; rw [if_neg c1, if_neg (by omega), if_neg (by omega), if_pos (by omega)]; simp only [Bool.and_eq_true, decide_eq_true_eq]
        have hh := (hi_le (b i) 256).1
        rw [hm]
        refine Eq.trans ?_ (fin _ 4 (by decide) ?_ hn)
        · cases r with
          | zero =>
            rw [run_zero_due, hout (i + 1) (by omega), decide_eq_false (by intro k; have := hh k.2; omega)]; rfl
          | succ r =>
            rw [run_due]
            cases r with
            | zero =>
              rw [run_zero_due, show i + 1 + 1 = i + 2 from rfl, hout (i + 2) (by omega)]
              simp [cont]
            | succ r =>
              rw [run_due]
              cases r with
              | zero =>
                rw [run_zero_due, hout (i + 3) (by omega)]
                simp [cont]
              | succ r =>
                rw [run_due, cont_le, cont_le, show len - (i + 4) = r from by omega, Bool.and_assoc, Bool.and_assoc]
        · intro k
          rw [Bool.and_eq_true, Bool.and_eq_true] at k
          rcases Nat.lt_or_ge (i + 3) len with g | g
          · omega
          · rw [hout _ g] at k; exact absurd k.2.2 (by decide)
    · obtain rfl : i = len := by omega
      have hb : badF b i f i = i := by
        cases f with
        | zero => rfl
        | succ f => show (if i < i then _ else _) = _; rw [if_neg (by omega)]
      rw [hb, Nat.sub_self]
      simp [runB]

theorem bad_le (b : Nat → Nat) (len : Nat) (hout : ∀ j, len ≤ j → b j = 256) : ∀ f i, i ≤ len → badF b len f i ≤ len := by
  intro f
  induction f with
  | zero => intro i h; exact h
  | succ f ih =>
    intro i h
    show (if i < len then _ else _) ≤ len
    by_cases hlt : i < len
    · rw [if_pos hlt]
      by_cases hn : nx b i = 0
      · rw [if_pos hn]; exact h
      · rw [if_neg hn]
        refine ih _ ?_
        -- all its bytes are there
        have : nx b i ≤ len - i := by
          unfold nx at hn ⊢
          by_cases c1 : b i < 128
          · rw [if_pos c1]; omega
          rw [if_neg c1] at hn ⊢
          by_cases c2 : 194 ≤ b i ∧ b i < 224
          · rw [if_pos c2] at hn ⊢
            split
            · rename_i k
              rcases Nat.lt_or_ge (i + 1) len with g | g
              · omega
              · rw [hout _ g] at k; exact absurd k (by decide)
            · omega
          rw [if_neg c2] at hn ⊢
          by_cases c3 : 224 ≤ b i ∧ b i < 240
          · rw [if_pos c3] at hn ⊢
            split
            · rename_i k
              rcases Nat.lt_or_ge (i + 2) len with g | g
              · omega
              · rw [hout _ g] at k; exact absurd k.2 (by decide)
            · omega
          rw [if_neg c3] at hn ⊢
          by_cases c4 : 240 ≤ b i ∧ b i < 245
          · rw [if_pos c4] at hn ⊢
            split
            · rename_i k
              rcases Nat.lt_or_ge (i + 3) len with g | g
              · omega
              · rw [hout _ g] at k; exact absurd k.2.2 (by decide)
            · omega
          rw [if_neg c4] at hn
          exact absurd rfl hn
        omega
    · rw [if_neg hlt]; exact h
end Go.Proofs.YtiignmjglihbnaaDoor
