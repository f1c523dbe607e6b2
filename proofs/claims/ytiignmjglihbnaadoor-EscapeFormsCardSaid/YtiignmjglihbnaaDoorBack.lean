/- The plain law of EscapeBack: a quoted text is scanned to itself. -/
import Derived.Test.YtiignmjglihbnaaDoorLaw10
namespace Go.Proofs.YtiignmjglihbnaaDoor
open Go.RowKit
set_option linter.unusedVariables false

/-- bytes, one after another, of which none ends a literal or is wrong -/
def feed : St → List Nat → Option St
  | st, [] => some st
  | st, c :: l => if (stepF st c).2 = true ∧ (stepF st c).1.mode ≠ 7 then feed (stepF st c).1 l else none
theorem feed_app : ∀ (l m : List Nat) (st st1 : St), feed st l = some st1 → feed st (l ++ m) = feed st1 m := by
  intro l
  induction l with
  | nil => intro m st st1 h; cases h; rfl
  | cons c l ih =>
    intro m st st1 h
    unfold feed at h
    by_cases q : (stepF st c).2 = true ∧ (stepF st c).1.mode ≠ 7
    · rw [if_pos q] at h
      show (if _ then _ else _) = _
      rw [if_pos q]
      exact ih m _ st1 h
    · rw [if_neg q] at h; cases h
theorem feed_one (st st1 : St) (c : Nat) (h : stepF st c = (st1, true)) (hm : st1.mode ≠ 7) : feed st [c] = some st1 := by
  unfold feed
  rw [h]
  exact if_pos ⟨rfl, hm⟩
theorem scanG_feed (b : Nat → Nat) (sz : Nat) : ∀ (l : List Nat) (i : Nat) (st st' : St), (∀ j, j < l.length → b (i + j) = l.getD j 0) → i + l.length ≤ sz → feed st l = some st' → scanG b (sz - i) i st = scanG b (sz - (i + l.length)) (i + l.length) st' := by
  intro l
  induction l with
  | nil => intro i st st' hb hs h; cases h; rfl
  | cons c l ih =>
    intro i st st' hb hs h
    unfold feed at h
    by_cases q : (stepF st c).2 = true ∧ (stepF st c).1.mode ≠ 7
    · rw [if_pos q] at h
      have hc : b i = c := by have := hb 0 (by simp); simpa using this
      have hlen : (c :: l).length = l.length + 1 := rfl
      rw [scanG_go b sz i st (stepF st c).1 (by omega) (by rw [hc]; exact Prod.ext rfl q.1) q.2]
      rw [ih (i + 1) (stepF st c).1 st' (fun j hj => by have := hb (j + 1) (by omega); rw [show i + 1 + j = i + (j + 1) by omega, this]; rfl) (by omega) h]
      rw [show i + 1 + l.length = i + (c :: l).length by omega]
    · rw [if_neg q] at h; cases h

/-- what a State is between pieces, with a text -/
def Mid (st : St) (t : List Nat) : Prop := st.mode = 1 ∧ st.high = 0 ∧ st.text = t
theorem esc_0 (l n : Int) (lo mo : Nat) (t : List Nat) : feed ⟨1, l, n, 0, lo, mo, t⟩ (escB 0) = some ⟨1, 0, 0, 0, lo, mo, t ++ [0]⟩ := by kernel_rfl
theorem esc_1 (l n : Int) (lo mo : Nat) (t : List Nat) : feed ⟨1, l, n, 0, lo, mo, t⟩ (escB 1) = some ⟨1, 0, 1, 0, lo, mo, t ++ [1]⟩ := by kernel_rfl
theorem esc_2 (l n : Int) (lo mo : Nat) (t : List Nat) : feed ⟨1, l, n, 0, lo, mo, t⟩ (escB 2) = some ⟨1, 0, 2, 0, lo, mo, t ++ [2]⟩ := by kernel_rfl
theorem esc_3 (l n : Int) (lo mo : Nat) (t : List Nat) : feed ⟨1, l, n, 0, lo, mo, t⟩ (escB 3) = some ⟨1, 0, 3, 0, lo, mo, t ++ [3]⟩ := by kernel_rfl
theorem esc_4 (l n : Int) (lo mo : Nat) (t : List Nat) : feed ⟨1, l, n, 0, lo, mo, t⟩ (escB 4) = some ⟨1, 0, 4, 0, lo, mo, t ++ [4]⟩ := by kernel_rfl
theorem esc_5 (l n : Int) (lo mo : Nat) (t : List Nat) : feed ⟨1, l, n, 0, lo, mo, t⟩ (escB 5) = some ⟨1, 0, 5, 0, lo, mo, t ++ [5]⟩ := by kernel_rfl
theorem esc_6 (l n : Int) (lo mo : Nat) (t : List Nat) : feed ⟨1, l, n, 0, lo, mo, t⟩ (escB 6) = some ⟨1, 0, 6, 0, lo, mo, t ++ [6]⟩ := by kernel_rfl
theorem esc_7 (l n : Int) (lo mo : Nat) (t : List Nat) : feed ⟨1, l, n, 0, lo, mo, t⟩ (escB 7) = some ⟨1, 0, 7, 0, lo, mo, t ++ [7]⟩ := by kernel_rfl
theorem esc_8 (l n : Int) (lo mo : Nat) (t : List Nat) : feed ⟨1, l, n, 0, lo, mo, t⟩ (escB 8) = some ⟨1, l, n, 0, lo, mo, t ++ [8]⟩ := by kernel_rfl
theorem esc_9 (l n : Int) (lo mo : Nat) (t : List Nat) : feed ⟨1, l, n, 0, lo, mo, t⟩ (escB 9) = some ⟨1, l, n, 0, lo, mo, t ++ [9]⟩ := by kernel_rfl
theorem esc_10 (l n : Int) (lo mo : Nat) (t : List Nat) : feed ⟨1, l, n, 0, lo, mo, t⟩ (escB 10) = some ⟨1, l, n, 0, lo, mo, t ++ [10]⟩ := by kernel_rfl
theorem esc_11 (l n : Int) (lo mo : Nat) (t : List Nat) : feed ⟨1, l, n, 0, lo, mo, t⟩ (escB 11) = some ⟨1, 0, 11, 0, lo, mo, t ++ [11]⟩ := by kernel_rfl
theorem esc_12 (l n : Int) (lo mo : Nat) (t : List Nat) : feed ⟨1, l, n, 0, lo, mo, t⟩ (escB 12) = some ⟨1, l, n, 0, lo, mo, t ++ [12]⟩ := by kernel_rfl
theorem esc_13 (l n : Int) (lo mo : Nat) (t : List Nat) : feed ⟨1, l, n, 0, lo, mo, t⟩ (escB 13) = some ⟨1, l, n, 0, lo, mo, t ++ [13]⟩ := by kernel_rfl
theorem esc_14 (l n : Int) (lo mo : Nat) (t : List Nat) : feed ⟨1, l, n, 0, lo, mo, t⟩ (escB 14) = some ⟨1, 0, 14, 0, lo, mo, t ++ [14]⟩ := by kernel_rfl
theorem esc_15 (l n : Int) (lo mo : Nat) (t : List Nat) : feed ⟨1, l, n, 0, lo, mo, t⟩ (escB 15) = some ⟨1, 0, 15, 0, lo, mo, t ++ [15]⟩ := by kernel_rfl
theorem esc_16 (l n : Int) (lo mo : Nat) (t : List Nat) : feed ⟨1, l, n, 0, lo, mo, t⟩ (escB 16) = some ⟨1, 0, 16, 0, lo, mo, t ++ [16]⟩ := by kernel_rfl
theorem esc_17 (l n : Int) (lo mo : Nat) (t : List Nat) : feed ⟨1, l, n, 0, lo, mo, t⟩ (escB 17) = some ⟨1, 0, 17, 0, lo, mo, t ++ [17]⟩ := by kernel_rfl
theorem esc_18 (l n : Int) (lo mo : Nat) (t : List Nat) : feed ⟨1, l, n, 0, lo, mo, t⟩ (escB 18) = some ⟨1, 0, 18, 0, lo, mo, t ++ [18]⟩ := by kernel_rfl
theorem esc_19 (l n : Int) (lo mo : Nat) (t : List Nat) : feed ⟨1, l, n, 0, lo, mo, t⟩ (escB 19) = some ⟨1, 0, 19, 0, lo, mo, t ++ [19]⟩ := by kernel_rfl
theorem esc_20 (l n : Int) (lo mo : Nat) (t : List Nat) : feed ⟨1, l, n, 0, lo, mo, t⟩ (escB 20) = some ⟨1, 0, 20, 0, lo, mo, t ++ [20]⟩ := by kernel_rfl
theorem esc_21 (l n : Int) (lo mo : Nat) (t : List Nat) : feed ⟨1, l, n, 0, lo, mo, t⟩ (escB 21) = some ⟨1, 0, 21, 0, lo, mo, t ++ [21]⟩ := by kernel_rfl
theorem esc_22 (l n : Int) (lo mo : Nat) (t : List Nat) : feed ⟨1, l, n, 0, lo, mo, t⟩ (escB 22) = some ⟨1, 0, 22, 0, lo, mo, t ++ [22]⟩ := by kernel_rfl
theorem esc_23 (l n : Int) (lo mo : Nat) (t : List Nat) : feed ⟨1, l, n, 0, lo, mo, t⟩ (escB 23) = some ⟨1, 0, 23, 0, lo, mo, t ++ [23]⟩ := by kernel_rfl
theorem esc_24 (l n : Int) (lo mo : Nat) (t : List Nat) : feed ⟨1, l, n, 0, lo, mo, t⟩ (escB 24) = some ⟨1, 0, 24, 0, lo, mo, t ++ [24]⟩ := by kernel_rfl
theorem esc_25 (l n : Int) (lo mo : Nat) (t : List Nat) : feed ⟨1, l, n, 0, lo, mo, t⟩ (escB 25) = some ⟨1, 0, 25, 0, lo, mo, t ++ [25]⟩ := by kernel_rfl
theorem esc_26 (l n : Int) (lo mo : Nat) (t : List Nat) : feed ⟨1, l, n, 0, lo, mo, t⟩ (escB 26) = some ⟨1, 0, 26, 0, lo, mo, t ++ [26]⟩ := by kernel_rfl
theorem esc_27 (l n : Int) (lo mo : Nat) (t : List Nat) : feed ⟨1, l, n, 0, lo, mo, t⟩ (escB 27) = some ⟨1, 0, 27, 0, lo, mo, t ++ [27]⟩ := by kernel_rfl
theorem esc_28 (l n : Int) (lo mo : Nat) (t : List Nat) : feed ⟨1, l, n, 0, lo, mo, t⟩ (escB 28) = some ⟨1, 0, 28, 0, lo, mo, t ++ [28]⟩ := by kernel_rfl
theorem esc_29 (l n : Int) (lo mo : Nat) (t : List Nat) : feed ⟨1, l, n, 0, lo, mo, t⟩ (escB 29) = some ⟨1, 0, 29, 0, lo, mo, t ++ [29]⟩ := by kernel_rfl
theorem esc_30 (l n : Int) (lo mo : Nat) (t : List Nat) : feed ⟨1, l, n, 0, lo, mo, t⟩ (escB 30) = some ⟨1, 0, 30, 0, lo, mo, t ++ [30]⟩ := by kernel_rfl
theorem esc_31 (l n : Int) (lo mo : Nat) (t : List Nat) : feed ⟨1, l, n, 0, lo, mo, t⟩ (escB 31) = some ⟨1, 0, 31, 0, lo, mo, t ++ [31]⟩ := by kernel_rfl
theorem esc_34 (l n : Int) (lo mo : Nat) (t : List Nat) : feed ⟨1, l, n, 0, lo, mo, t⟩ (escB 34) = some ⟨1, l, n, 0, lo, mo, t ++ [34]⟩ := by kernel_rfl
theorem esc_92 (l n : Int) (lo mo : Nat) (t : List Nat) : feed ⟨1, l, n, 0, lo, mo, t⟩ (escB 92) = some ⟨1, l, n, 0, lo, mo, t ++ [92]⟩ := by kernel_rfl
theorem esc_ctl (c : Nat) (h : c < 32 ∨ c = 34 ∨ c = 92) (l n : Int) (lo mo : Nat) (t : List Nat) : ∃ st', feed ⟨1, l, n, 0, lo, mo, t⟩ (escB c) = some st' ∧ Mid st' (t ++ [c]) := by
  have : c = 0 ∨ c = 1 ∨ c = 2 ∨ c = 3 ∨ c = 4 ∨ c = 5 ∨ c = 6 ∨ c = 7 ∨ c = 8 ∨ c = 9 ∨ c = 10 ∨ c = 11 ∨ c = 12 ∨ c = 13 ∨ c = 14 ∨ c = 15 ∨ c = 16 ∨ c = 17 ∨ c = 18 ∨ c = 19 ∨ c = 20 ∨ c = 21 ∨ c = 22 ∨ c = 23 ∨ c = 24 ∨ c = 25 ∨ c = 26 ∨ c = 27 ∨ c = 28 ∨ c = 29 ∨ c = 30 ∨ c = 31 ∨ c = 34 ∨ c = 92 := by omega
  rcases this with rfl | rfl | rfl | rfl | rfl | rfl | rfl | rfl | rfl | rfl | rfl | rfl | rfl | rfl | rfl | rfl | rfl | rfl | rfl | rfl | rfl | rfl | rfl | rfl | rfl | rfl | rfl | rfl | rfl | rfl | rfl | rfl | rfl | rfl
  · exact ⟨_, esc_0 l n lo mo t, rfl, rfl, rfl⟩
  · exact ⟨_, esc_1 l n lo mo t, rfl, rfl, rfl⟩
  · exact ⟨_, esc_2 l n lo mo t, rfl, rfl, rfl⟩
  · exact ⟨_, esc_3 l n lo mo t, rfl, rfl, rfl⟩
  · exact ⟨_, esc_4 l n lo mo t, rfl, rfl, rfl⟩
  · exact ⟨_, esc_5 l n lo mo t, rfl, rfl, rfl⟩
  · exact ⟨_, esc_6 l n lo mo t, rfl, rfl, rfl⟩
  · exact ⟨_, esc_7 l n lo mo t, rfl, rfl, rfl⟩
  · exact ⟨_, esc_8 l n lo mo t, rfl, rfl, rfl⟩
  · exact ⟨_, esc_9 l n lo mo t, rfl, rfl, rfl⟩
  · exact ⟨_, esc_10 l n lo mo t, rfl, rfl, rfl⟩
  · exact ⟨_, esc_11 l n lo mo t, rfl, rfl, rfl⟩
  · exact ⟨_, esc_12 l n lo mo t, rfl, rfl, rfl⟩
  · exact ⟨_, esc_13 l n lo mo t, rfl, rfl, rfl⟩
  · exact ⟨_, esc_14 l n lo mo t, rfl, rfl, rfl⟩
  · exact ⟨_, esc_15 l n lo mo t, rfl, rfl, rfl⟩
  · exact ⟨_, esc_16 l n lo mo t, rfl, rfl, rfl⟩
  · exact ⟨_, esc_17 l n lo mo t, rfl, rfl, rfl⟩
  · exact ⟨_, esc_18 l n lo mo t, rfl, rfl, rfl⟩
  · exact ⟨_, esc_19 l n lo mo t, rfl, rfl, rfl⟩
  · exact ⟨_, esc_20 l n lo mo t, rfl, rfl, rfl⟩
  · exact ⟨_, esc_21 l n lo mo t, rfl, rfl, rfl⟩
  · exact ⟨_, esc_22 l n lo mo t, rfl, rfl, rfl⟩
  · exact ⟨_, esc_23 l n lo mo t, rfl, rfl, rfl⟩
  · exact ⟨_, esc_24 l n lo mo t, rfl, rfl, rfl⟩
  · exact ⟨_, esc_25 l n lo mo t, rfl, rfl, rfl⟩
  · exact ⟨_, esc_26 l n lo mo t, rfl, rfl, rfl⟩
  · exact ⟨_, esc_27 l n lo mo t, rfl, rfl, rfl⟩
  · exact ⟨_, esc_28 l n lo mo t, rfl, rfl, rfl⟩
  · exact ⟨_, esc_29 l n lo mo t, rfl, rfl, rfl⟩
  · exact ⟨_, esc_30 l n lo mo t, rfl, rfl, rfl⟩
  · exact ⟨_, esc_31 l n lo mo t, rfl, rfl, rfl⟩
  · exact ⟨_, esc_34 l n lo mo t, rfl, rfl, rfl⟩
  · exact ⟨_, esc_92 l n lo mo t, rfl, rfl, rfl⟩
theorem escB_self (c : Nat) (h : 32 ≤ c) (h1 : c ≠ 34) (h2 : c ≠ 92) : escB c = [c] := by
  unfold escB
  rw [if_neg (by omega), if_neg (by omega), if_neg (by omega), if_neg (by omega), if_neg (by omega), if_neg (by omega), if_neg (by omega), if_neg (by omega)]
theorem esc_low (c : Nat) (h : c < 128) (st : St) (t : List Nat) (hm : Mid st t) : ∃ st', feed st (escB c) = some st' ∧ Mid st' (t ++ [c]) := by
  obtain ⟨m1, m2, m3⟩ := hm
  by_cases q : c < 32 ∨ c = 34 ∨ c = 92
  · obtain ⟨mode, l, n, hi, lo, mo, t0⟩ := st
    obtain rfl : mode = 1 := m1
    obtain rfl : hi = 0 := m2
    obtain rfl : t0 = t := m3
    exact esc_ctl c q l n lo mo t0
  · rw [escB_self c (by omega) (by omega) (by omega)]
    have hs : stepF st c = ({ st with text := st.text ++ [c] }, true) := by
      rw [step1 st c m1]; unfold inside
      rw [if_neg (by omega), if_neg (by omega), if_neg (by omega), if_pos (by omega)]
    refine ⟨_, feed_one st _ c hs (by show st.mode ≠ 7; omega), m1, m2, ?_⟩
    show st.text ++ [c] = _
    rw [m3]

def escs (b : Nat → Nat) : Nat → Nat → List Nat
  | _, 0 => []
  | k, f + 1 => escB (b k) ++ escs b (k + 1) f
theorem outB_escs (s : ByteArray) : ∀ f k, outB s k ++ escs (bt s) k f = outB s (k + f) := by
  intro f
  induction f with
  | zero => intro k; exact List.append_nil _
  | succ f ih =>
    intro k
    show outB s k ++ (escB (bt s k) ++ escs (bt s) (k + 1) f) = _
    rw [← List.append_assoc, ← outB_succ, ih (k + 1)]
    congr 1
    omega
theorem bytesAt_cons (b : Nat → Nat) (k n : Nat) (t : List Nat) : t ++ [b k] ++ bytesAt b (k + 1) n = t ++ bytesAt b k (n + 1) := by
  rw [bytesAt_succ, List.append_assoc]; rfl

theorem escs_run (b : Nat → Nat) : ∀ (f k l lo hi : Nat) (st : St) (t : List Nat), runB b f k l lo hi = true → st.high = 0 → st.text = t → ((l = 0 ∧ st.mode = 1) ∨ (1 ≤ l ∧ st.mode = 6 ∧ st.left = (l : Int) ∧ st.low = lo ∧ st.most = hi ∧ 128 ≤ lo)) →
    ∃ st', feed st (escs b k f) = some st' ∧ Mid st' (t ++ bytesAt b k f) := by
  intro f
  induction f with
  | zero =>
    intro k l lo hi st t hr hh ht hm
    have hl : l = 0 := by
      have : (l == 0) = true := hr
      simpa using this
    rcases hm with ⟨-, h1⟩ | ⟨h0, -⟩
    · exact ⟨st, rfl, h1, hh, by rw [ht]; exact (List.append_nil _).symm⟩
    · omega
  | succ f ih =>
    intro k l lo hi st t hr hh ht hm
    rcases hm with ⟨rfl, h1⟩ | ⟨h0, h1, h2, h3, h4, h5⟩
    · rw [run_free] at hr
      by_cases q1 : b k < 128
      · rw [if_pos q1] at hr
        obtain ⟨st1, g1, g2, g3, g4⟩ := esc_low (b k) q1 st t ⟨h1, hh, ht⟩
        obtain ⟨st2, k1, k2⟩ := ih (k + 1) 0 lo hi st1 (t ++ [b k]) hr g3 g4 (.inl ⟨rfl, g2⟩)
        refine ⟨st2, ?_, by rw [← bytesAt_cons]; exact k2⟩
        show feed st (escB (b k) ++ escs b (k + 1) f) = _
        rw [feed_app _ _ _ _ g1, k1]
      · rw [if_neg q1] at hr
        by_cases q2 : b k < 194 ∨ 244 < b k
        · rw [if_pos q2] at hr; cases hr
        · rw [if_neg q2] at hr
          obtain ⟨m, hm, hin⟩ := inside_hi (b k) (by omega) (by omega) st
          have hs : stepF st (b k) = _ := (step1 st (b k) h1).trans hin
          have hf := feed_one st _ (b k) hs (show (6 : Int) ≠ 7 by decide)
          obtain ⟨st2, k1, k2⟩ := ih (k + 1) (moreB (b k)) (loB (b k)) (hiB (b k)) { st with text := st.text ++ [b k], mode := 6, low := loB (b k), most := hiB (b k), left := (((m + 1 : Nat)) : Int) } (t ++ [b k]) hr hh (by show st.text ++ [b k] = _; rw [ht]) (.inr ⟨by omega, rfl, by rw [hm], rfl, rfl, by unfold loB; split; omega; split <;> omega⟩)
          refine ⟨st2, ?_, by rw [← bytesAt_cons]; exact k2⟩
          show feed st (escB (b k) ++ escs b (k + 1) f) = _
          rw [escB_self (b k) (by omega) (by omega) (by omega), feed_app _ _ _ _ hf, k1]
    · obtain ⟨l', rfl⟩ : ∃ l', l = l' + 1 := ⟨l - 1, by omega⟩
      rw [run_due] at hr
      have hr1 : lo ≤ b k ∧ b k ≤ hi := by
        by_cases q : lo ≤ b k ∧ b k ≤ hi
        · exact q
        · rw [decide_eq_false q] at hr; cases hr
      rw [decide_eq_true hr1, Bool.true_and] at hr
      have hs : stepF st (b k) = ({ st with text := st.text ++ [b k], low := 128, most := 191, left := st.left - 1, mode := if st.left - 1 = 0 then 1 else st.mode }, true) := by
        rw [step6 st _ h1]; unfold bytesStep; rw [if_neg (by omega)]
      have hf := feed_one st _ (b k) hs (by show (if st.left - 1 = 0 then 1 else st.mode) ≠ (7 : Int); split <;> omega)
      obtain ⟨st2, k1, k2⟩ := ih (k + 1) l' 128 191 { st with text := st.text ++ [b k], low := 128, most := 191, left := st.left - 1, mode := if st.left - 1 = 0 then 1 else st.mode } (t ++ [b k]) hr hh (by show st.text ++ [b k] = _; rw [ht]) (by
        by_cases q : l' = 0
        · left; exact ⟨q, if_pos (by omega)⟩
        · right; exact ⟨by omega, by show (if st.left - 1 = 0 then 1 else st.mode) = (6 : Int); rw [if_neg (by omega)]; exact h1, by show st.left - 1 = _; omega, rfl, rfl, Nat.le_refl _⟩)
      refine ⟨st2, ?_, by rw [← bytesAt_cons]; exact k2⟩
      show feed st (escB (b k) ++ escs b (k + 1) f) = _
      rw [escB_self (b k) (by omega) (by omega) (by omega), feed_app _ _ _ _ hf, k1]

theorem strOf_size (l : List Nat) : (strOf l).size = l.length := by
  show (l.map UInt8.ofNat).toArray.size = _
  simp
theorem bt_strOf (l : List Nat) (h : ByteL l) (i : Nat) (hi : i < l.length) : bt (strOf l) i = l.getD i 0 := by
  rw [bt_in (by rw [strOf_size]; exact hi)]
  have h1 : (strOf l)[i]'(by rw [strOf_size]; exact hi) = UInt8.ofNat (l[i]) := by
    show (l.map UInt8.ofNat).toArray[i]'(by simpa using hi) = _
    simp
  rw [h1, u8n _ (h _ (List.getElem_mem hi))]
  simp [List.getD, hi]
/-- a text's own bytes -/
def bytesOf (s : ByteArray) : List Nat := bytesAt (bt s) 0 s.size
theorem strOf_bytes (s : ByteArray) : strOf (bytesOf s) = s := by
  apply ByteArray.ext
  apply Array.ext
  · show (strOf (bytesOf s)).size = s.size
    rw [strOf_size]; exact bytesAt_len _ _ _
  · intro i h1 h2
    have hi : i < s.size := h2
    have hlen : (bytesOf s).length = s.size := bytesAt_len _ _ _
    show ((bytesOf s).map UInt8.ofNat).toArray[i]'(by simp; omega) = s.data[i]
    simp only [List.getElem_toArray, List.getElem_map, bytesOf, bytesAt, List.getElem_range, Nat.zero_add]
    rw [bt_in hi]
    simp
    rfl

theorem back_law (s : ByteArray) (ht : isTextB s = true) : scanQ (litB s) 0 = .ok (bytesOf s, (litB s).size) := by
  rw [← scan_law (litB s) 0 (Nat.zero_le _)]
  have hby : ByteL (outB s s.size ++ [34]) := by
    intro x hx
    rcases List.mem_append.1 hx with hx | hx
    · exact outB_lt s s.size (Nat.le_refl _) x hx
    · simp at hx; omega
  have hout : outB s s.size = [34] ++ escs (bt s) 0 s.size := by
    have h := outB_escs s s.size 0
    rw [Nat.zero_add] at h
    rw [← h]; rfl
  have hsz : (litB s).size = (outB s s.size).length + 1 := by
    unfold litB
    rw [strOf_size, List.length_append]; rfl
  have hb : ∀ j, j < (outB s s.size).length → bt (litB s) (0 + j) = (outB s s.size).getD j 0 := by
    intro j hj
    unfold litB
    rw [Nat.zero_add, bt_strOf _ hby j (by rw [List.length_append]; omega)]
    simp [List.getD, List.getElem?_append_left hj]
  have hlast : bt (litB s) (outB s s.size).length = 34 := by
    unfold litB
    rw [bt_strOf _ hby _ (by rw [List.length_append]; simp)]
    simp [List.getD]
  obtain ⟨st', g1, g2, g3, g4⟩ := escs_run (bt s) s.size 0 0 0 0 { StZ with mode := 1 } [] ht rfl rfl (.inl ⟨rfl, rfl⟩)
  have hf : feed StZ (outB s s.size) = some st' := by
    rw [hout, feed_app [34] _ StZ { StZ with mode := 1 } rfl]
    exact g1
  unfold scanAt
  rw [scanG_feed (bt (litB s)) (litB s).size (outB s s.size) 0 StZ st' hb (by omega) hf, Nat.zero_add]
  have hs : stepF st' (bt (litB s) (outB s s.size).length) = ({ st' with mode := 7 }, true) := by
    rw [step1 st' _ g2, hlast]; rfl
  rw [scanG_end (bt (litB s)) (litB s).size (outB s s.size).length st' _ (by omega) hs rfl]
  show Except.ok (st'.text, _) = _
  rw [g4, hsz]
  rfl
end Go.Proofs.YtiignmjglihbnaaDoor
