/- The plain law of EscapeForms: what a literal says is a text, no longer than it. -/
import Derived.Test.YtiignmjglihbnaaDoorBack
namespace Go.Proofs.YtiignmjglihbnaaDoor
open Go.RowKit
set_option linter.unusedVariables false

/-- byte by byte over a list: so many bytes are due, the next within these ends -/
def runL : Nat → Nat → Nat → List Nat → Option (Nat × Nat × Nat)
  | l, lo, hi, [] => some (l, lo, hi)
  | l, lo, hi, c :: r =>
    if l = 0 then (if c < 128 then runL 0 lo hi r else if c < 194 ∨ 244 < c then none else runL (moreB c) (loB c) (hiB c) r)
    else if c < lo ∨ hi < c then none else runL (l - 1) 128 191 r
/-- whole code points -/
def Whole (ys : List Nat) : Prop := ∀ lo hi, ∃ lo' hi', runL 0 lo hi ys = some (0, lo', hi')
theorem runL_cons (l lo hi c : Nat) (r : List Nat) : runL l lo hi (c :: r) = if l = 0 then (if c < 128 then runL 0 lo hi r else if c < 194 ∨ 244 < c then none else runL (moreB c) (loB c) (hiB c) r) else if c < lo ∨ hi < c then none else runL (l - 1) 128 191 r := rfl
theorem runL_app : ∀ (x y : List Nat) (l lo hi l1 lo1 hi1 : Nat), runL l lo hi x = some (l1, lo1, hi1) → runL l lo hi (x ++ y) = runL l1 lo1 hi1 y := by
  intro x
  induction x with
  | nil => intro y l lo hi l1 lo1 hi1 h; cases h; rfl
  | cons c x ih =>
    intro y l lo hi l1 lo1 hi1 h
    rw [List.cons_append, runL_cons]
    rw [runL_cons] at h
    repeat' split at h
    all_goals first
      | (cases h; done)
      | skip
    · rename_i h1 h2; rw [if_pos h1, if_pos h2]; exact ih _ _ _ _ _ _ _ h
    · rename_i h1 h2 h3; rw [if_pos h1, if_neg h2, if_neg h3]; exact ih _ _ _ _ _ _ _ h
    · rename_i h1 h2; rw [if_neg h1, if_neg h2]; exact ih _ _ _ _ _ _ _ h
theorem Whole.app {x y : List Nat} (hx : Whole x) (hy : Whole y) : Whole (x ++ y) := by
  intro lo hi
  obtain ⟨lo1, hi1, h1⟩ := hx lo hi
  obtain ⟨lo2, hi2, h2⟩ := hy lo1 hi1
  exact ⟨lo2, hi2, by rw [runL_app _ _ _ _ _ _ _ _ h1]; exact h2⟩
theorem Whole.nil : Whole [] := fun lo hi => ⟨lo, hi, rfl⟩
theorem Whole.one {c : Nat} (h : c < 128) : Whole [c] := fun lo hi => ⟨lo, hi, by unfold runL; rw [if_pos rfl, if_pos h]; rfl⟩
theorem runL_head (c : Nat) (h : 194 ≤ c) (h' : c ≤ 244) (lo hi : Nat) (r : List Nat) : runL 0 lo hi (c :: r) = runL (moreB c) (loB c) (hiB c) r := by
  show (if _ then _ else _) = _
  rw [if_pos rfl, if_neg (by omega), if_neg (by omega)]
theorem runL_next (l c lo hi : Nat) (h : lo ≤ c) (h' : c ≤ hi) (r : List Nat) : runL (l + 1) lo hi (c :: r) = runL l 128 191 r := by
  show (if _ then _ else _) = _
  rw [if_neg (by omega), if_neg (by omega)]
  rfl
theorem encN_whole (n : Nat) (h : n < 1114112) (hs : ¬ (55296 ≤ n ∧ n ≤ 57343)) : Whole (encN n) := by
  unfold encN
  by_cases h1 : n < 128
  · rw [if_pos h1]; exact Whole.one h1
  rw [if_neg h1]
  by_cases h2 : n < 2048
  · rw [if_pos h2]
    intro lo hi
    rw [runL_head _ (by omega) (by omega)]
    have hm : moreB (192 + n / 64) = 0 + 1 := by unfold moreB; rw [if_neg (by omega), if_neg (by omega)]
    have hl : loB (192 + n / 64) = 128 := by unfold loB; rw [if_neg (by omega), if_neg (by omega)]
    have hh : hiB (192 + n / 64) = 191 := by unfold hiB; rw [if_neg (by omega), if_neg (by omega)]
    rw [hm, hl, hh, runL_next _ _ _ _ (by omega) (by omega)]
    exact ⟨_, _, rfl⟩
  rw [if_neg h2]
  by_cases h3 : n < 65536
  · rw [if_pos h3]
    intro lo hi
    rw [runL_head _ (by omega) (by omega)]
    have hm : moreB (224 + n / 4096) = 1 + 1 := by unfold moreB; rw [if_neg (by omega), if_pos (by omega)]
    have hl : loB (224 + n / 4096) ≤ 128 + n / 64 % 64 := by unfold loB; split; omega; split <;> omega
    have hh : 128 + n / 64 % 64 ≤ hiB (224 + n / 4096) := by unfold hiB; split; omega; split <;> omega
    rw [hm, runL_next _ _ _ _ hl hh, runL_next _ _ _ _ (by omega) (by omega)]
    exact ⟨_, _, rfl⟩
  rw [if_neg h3]
  intro lo hi
  rw [runL_head _ (by omega) (by omega)]
  have hm : moreB (240 + n / 262144) = 2 + 1 := by unfold moreB; rw [if_pos (by omega)]
  have hl : loB (240 + n / 262144) ≤ 128 + n / 4096 % 64 := by unfold loB; split; omega; split <;> omega
  have hh : 128 + n / 4096 % 64 ≤ hiB (240 + n / 262144) := by unfold hiB; split; omega; split <;> omega
  rw [hm, runL_next _ _ _ _ hl hh, runL_next _ _ _ _ (by omega) (by omega), runL_next _ _ _ _ (by omega) (by omega)]
  exact ⟨_, _, rfl⟩
theorem contN_whole (b : Nat → Nat) (i sz : Nat) : ∀ (l j lo hi : Nat), (contN (fun j => b (i + j)) sz l j lo hi).2 = true → ∃ lo' hi', runL l lo hi (bytesAt b (i + j) l) = some (0, lo', hi') := by
  intro l
  induction l with
  | zero => intro j lo hi h; exact ⟨lo, hi, rfl⟩
  | succ l ih =>
    intro j lo hi h
    have hu : contN (fun j => b (i + j)) sz (l + 1) j lo hi = if j < sz ∧ lo ≤ b (i + j) ∧ b (i + j) ≤ hi then contN (fun j => b (i + j)) sz l (j + 1) 128 191 else (j, false) := rfl
    rw [hu] at h
    by_cases q : j < sz ∧ lo ≤ b (i + j) ∧ b (i + j) ≤ hi
    · rw [if_pos q] at h
      rw [bytesAt_succ, runL_next _ _ _ _ q.2.1 q.2.2]
      exact ih (j + 1) 128 191 h
    · rw [if_neg q] at h; cases h
theorem whole_of (l : List Nat) (n : Nat) (b : Bool) (h : Whole l) : Whole ((l, n, b) : List Nat × Nat × Bool).1 := h
theorem strokeN_whole (b : Nat → Nat) : Whole (strokeN b).1 := by
  have hlet : ∀ c m, letM c = some m → m < 128 := by
    intro c m h
    unfold letM at h
    repeat' split at h
    all_goals (cases h; try decide)
  unfold strokeN
  split
  · rename_i m hm; exact whole_of _ _ _ (Whole.one (hlet _ _ hm))
  split
  · exact whole_of _ _ _ Whole.nil
  split
  · exact whole_of _ _ _ Whole.nil
  rename_i hok
  have f1 := unit_free (fun j => b (2 + j)) (unitN (fun j => b (2 + j)) false 4 0 0).1 (unitN (fun j => b (2 + j)) false 4 0 0).2.1 (by
    generalize unitN (fun j => b (2 + j)) false 4 0 0 = u at *
    obtain ⟨x, n, ok⟩ := u
    cases ok
    · exact absurd rfl hok
    · rfl)
  split
  · rename_i h54; exact whole_of _ _ _ (encN_whole _ (by omega) (by omega))
  rename_i h54
  split
  · exact whole_of _ _ _ Whole.nil
  split
  · exact whole_of _ _ _ Whole.nil
  split
  · exact whole_of _ _ _ Whole.nil
  rename_i hok2
  have f2 := unit_low (fun j => b (8 + j)) (unitN (fun j => b (8 + j)) true 4 0 0).1 (unitN (fun j => b (8 + j)) true 4 0 0).2.1 (by
    generalize unitN (fun j => b (8 + j)) true 4 0 0 = u at *
    obtain ⟨x, n, ok⟩ := u
    cases ok
    · exact absurd rfl hok2
    · rfl)
  have h54' : (unitN (fun j => b (2 + j)) false 4 0 0).1 / 1024 = 54 := by
    by_cases k : (unitN (fun j => b (2 + j)) false 4 0 0).1 / 1024 = 54
    · exact k
    · exact absurd k h54
  exact whole_of _ _ _ (encN_whole _ (by omega) (by omega))
theorem pieceN_whole (b : Nat → Nat) (sz i : Nat) (h : (pieceN b sz i).2.2 = true) : Whole (pieceN b sz i).1 := by
  unfold pieceN at h ⊢
  by_cases h92 : b i = 92
  · rw [if_pos h92]; exact strokeN_whole _
  rw [if_neg h92] at h ⊢
  by_cases hm : 32 ≤ b i ∧ b i ≤ 127
  · rw [if_pos hm]; exact whole_of _ _ _ (Whole.one (by omega))
  rw [if_neg hm] at h ⊢
  have h : (pointN (fun j => b (i + j)) (sz - i)).2 = true := h
  show Whole (bytesAt b i (pointN (fun j => b (i + j)) (sz - i)).1)
  have hu : pointN (fun j => b (i + j)) (sz - i) = if b i < 194 ∨ 244 < b i then (0, false) else contN (fun j => b (i + j)) (sz - i) (moreB (b i)) 1 (loB (b i)) (hiB (b i)) := rfl
  rw [hu] at h ⊢
  by_cases q : b i < 194 ∨ 244 < b i
  · rw [if_pos q] at h; cases h
  rw [if_neg q] at h ⊢
  have hmb := moreB_le (b i)
  by_cases hsz : 1 ≤ sz - i
  · have hle := contN_le (fun j => b (i + j)) (sz - i) (moreB (b i)) 1 (loB (b i)) (hiB (b i)) hsz
    rw [hle.2.2.2 h, show 1 + moreB (b i) = moreB (b i) + 1 by omega, bytesAt_succ]
    intro lo hi
    rw [runL_head _ (by omega) (by omega)]
    exact contN_whole b i (sz - i) (moreB (b i)) 1 (loB (b i)) (hiB (b i)) h
  · obtain ⟨m, hm2⟩ : ∃ m, moreB (b i) = m + 1 := ⟨moreB (b i) - 1, by omega⟩
    rw [hm2] at h
    have hu2 : contN (fun j => b (i + j)) (sz - i) (m + 1) 1 (loB (b i)) (hiB (b i)) = if 1 < sz - i ∧ loB (b i) ≤ b (i + 1) ∧ b (i + 1) ≤ hiB (b i) then contN (fun j => b (i + j)) (sz - i) m (1 + 1) 128 191 else (1, false) := rfl
    rw [hu2, if_neg (by omega)] at h
    cases h
theorem pieceN_len (b : Nat → Nat) (sz i : Nat) : (pieceN b sz i).1.length ≤ (pieceN b sz i).2.1 := by
  unfold pieceN
  by_cases h92 : b i = 92
  · rw [if_pos h92]; exact (strokeN_le _).2.2
  rw [if_neg h92]
  by_cases hm : 32 ≤ b i ∧ b i ≤ 127
  · rw [if_pos hm]; exact Nat.le_refl _
  rw [if_neg hm]
  show (bytesAt b i _).length ≤ _
  rw [bytesAt_len]; exact Nat.le_refl _
theorem scanP_whole (b : Nat → Nat) (sz : Nat) : ∀ (F i : Nat) (t t' : List Nat) (n : Nat), scanP b sz F i t = .ok (t', n) → Whole t → t.length ≤ i → Whole t' ∧ t'.length ≤ sz := by
  intro F
  induction F with
  | zero => intro i t t' n h; cases h
  | succ F ih =>
    intro i t t' n h hw hl
    rw [scanP] at h
    by_cases h1 : sz ≤ i
    · rw [if_pos h1] at h; cases h
    rw [if_neg h1] at h
    by_cases h34 : b i = 34
    · rw [if_pos h34] at h
      injection h with h
      injection h with h2 h3
      subst h2
      exact ⟨hw, by omega⟩
    rw [if_neg h34] at h
    by_cases hok : (pieceN b sz i).2.2 = false
    · rw [if_pos hok] at h; cases h
    rw [if_neg hok] at h
    have hok' : (pieceN b sz i).2.2 = true := by simpa using hok
    have hpl := pieceN_len b sz i
    exact ih _ _ _ _ h (hw.app (pieceN_whole b sz i hok')) (by rw [List.length_append]; omega)
theorem runB_of (b : Nat → Nat) : ∀ (f i l lo hi lo' hi' : Nat), runL l lo hi (bytesAt b i f) = some (0, lo', hi') → runB b f i l lo hi = true := by
  intro f
  induction f with
  | zero => intro i l lo hi lo' hi' h; cases h; rfl
  | succ f ih =>
    intro i l lo hi lo' hi' h
    rw [bytesAt_succ] at h
    cases l with
    | zero =>
      rw [run_free]
      unfold runL at h
      rw [if_pos rfl] at h
      by_cases q1 : b i < 128
      · rw [if_pos q1] at h ⊢; exact ih _ _ _ _ _ _ h
      rw [if_neg q1] at h ⊢
      by_cases q2 : b i < 194 ∨ 244 < b i
      · rw [if_pos q2] at h; cases h
      rw [if_neg q2] at h ⊢
      exact ih _ _ _ _ _ _ h
    | succ l =>
      rw [run_due]
      unfold runL at h
      rw [if_neg (by omega)] at h
      by_cases q : b i < lo ∨ hi < b i
      · rw [if_pos q] at h; cases h
      rw [if_neg q] at h
      rw [decide_eq_true (by omega), Bool.true_and]
      exact ih _ _ _ _ _ _ h
theorem bytes_strOf (t : List Nat) (h : ByteL t) : bytesOf (strOf t) = t := by
  unfold bytesOf
  rw [strOf_size]
  apply List.ext_getElem
  · exact bytesAt_len _ _ _
  · intro i h1 h2
    simp only [bytesAt, List.getElem_map, List.getElem_range, Nat.zero_add]
    rw [bt_strOf t h i h2]
    simp [List.getD, h2]
theorem pieceN_byte (s : ByteArray) (i : Nat) (hi : i < s.size) : ByteL (pieceN (bt s) s.size i).1 := by
  unfold pieceN
  by_cases h92 : bt s i = 92
  · rw [if_pos h92]; exact strokeN_byte _
  rw [if_neg h92]
  by_cases hm : 32 ≤ bt s i ∧ bt s i ≤ 127
  · rw [if_pos hm]; exact byte_of _ _ _ (.one (by omega))
  rw [if_neg hm]
  have hle := pointN_le (fun j => bt s (i + j)) (s.size - i) (by omega)
  exact bytesAt_byte s i _ (by omega)
theorem scanP_byte (s : ByteArray) : ∀ (F i : Nat) (t t' : List Nat) (n : Nat), scanP (bt s) s.size F i t = .ok (t', n) → ByteL t → ByteL t' := by
  intro F
  induction F with
  | zero => intro i t t' n h; cases h
  | succ F ih =>
    intro i t t' n h hw
    rw [scanP] at h
    by_cases h1 : s.size ≤ i
    · rw [if_pos h1] at h; cases h
    rw [if_neg h1] at h
    by_cases h34 : bt s i = 34
    · rw [if_pos h34] at h
      injection h with h
      injection h with h2 h3
      subst h2
      exact hw
    rw [if_neg h34] at h
    by_cases hok : (pieceN (bt s) s.size i).2.2 = false
    · rw [if_pos hok] at h; cases h
    rw [if_neg hok] at h
    exact ih _ _ _ _ h (hw.app (pieceN_byte s i (by omega)))
theorem form_law (l : ByteArray) (t : List Nat) (h : unqQ l (scanQ l 0) = .ok t) : isTextB (strOf t) = true ∧ t.length ≤ l.size ∧ bytesOf (strOf t) = t := by
  cases hR : scanQ l 0 with
  | error i => rw [hR] at h; cases h
  | ok tn =>
    obtain ⟨t0, n⟩ := tn
    rw [hR] at h
    have h : (if n < l.size then Except.error n else Except.ok t0) = Except.ok t := h
    by_cases hn : n < l.size
    · rw [if_pos hn] at h; cases h
    rw [if_neg hn] at h
    injection h with h
    subst h
    unfold scanQ at hR
    by_cases q : l.size ≤ 0 ∨ bt l 0 ≠ 34
    · rw [if_pos q] at hR; cases hR
    rw [if_neg q] at hR
    have h1 := scanP_whole (bt l) l.size _ _ _ _ _ hR Whole.nil (Nat.zero_le _)
    have h2 := scanP_byte l _ _ _ _ _ hR byte_nil
    have hb := bytes_strOf t0 h2
    refine ⟨?_, h1.2, hb⟩
    obtain ⟨lo', hi', hr⟩ := h1.1 0 0
    unfold isTextB
    refine runB_of (bt (strOf t0)) (strOf t0).size 0 0 0 0 lo' hi' ?_
    show runL 0 0 0 (bytesOf (strOf t0)) = _
    rw [hb]; exact hr
theorem lit_inj (s t : ByteArray) (hs : isTextB s = true) (ht : isTextB t = true) (h : litB s = litB t) : s = t := by
  have h1 := back_law s hs
  rw [h, back_law t ht] at h1
  injection h1 with h1
  injection h1 with h1 _
  rw [← strOf_bytes s, ← strOf_bytes t, h1]
end Go.Proofs.YtiignmjglihbnaaDoor
