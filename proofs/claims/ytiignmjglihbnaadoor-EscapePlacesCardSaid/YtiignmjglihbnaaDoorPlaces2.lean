/- The plain law of EscapePlaces, second part: over strings. -/
import Derived.Test.YtiignmjglihbnaaDoorPlaces
import Derived.Test.YtiignmjglihbnaaDoorWWithin
namespace Go.Proofs.YtiignmjglihbnaaDoor
open Go.RowKit
set_option linter.unusedVariables false

theorem no3 {m : Int} (h : m ≠ 3) {P : Prop} : m = 3 → P := fun k => absurd k h
theorem step_InP (st : St) (c : Nat) (h : InP st) (hok : (stepF st c).2 = true) (h7 : (stepF st c).1.mode ≠ 7) : InP (stepF st c).1 := by
  obtain ⟨hS, hn7, hp3, hp4, hp6⟩ := h
  have hS' := (step_ok st c hS hok).1
  refine ⟨hS', h7, ?_⟩
  obtain ⟨hmode, hh, h3, h6⟩ := hS
  revert hok h7
  clear hS'
  unfold stepF
  rcases hmode with m | m | m | m | m | m | m | m
  · rw [if_pos m]
    intro _ _
    exact ⟨fun k => absurd (show (1 : Int) = 3 from k) (by decide), fun k => by rcases k with k | k <;> exact absurd (show (1 : Int) = _ from k) (by decide), fun k => absurd (show (1 : Int) = 6 from k) (by decide)⟩
  · rw [if_neg (by omega), if_pos m]
    unfold inside
    by_cases q1 : c = 34
    · rw [if_pos q1]; intro _ k; exact absurd rfl k
    rw [if_neg q1]
    by_cases q2 : c = 92
    · rw [if_pos q2]
      intro _ _
      exact ⟨fun k => absurd (show (2 : Int) = 3 from k) (by decide), fun k => by rcases k with k | k <;> exact absurd (show (2 : Int) = _ from k) (by decide), fun k => absurd (show (2 : Int) = 6 from k) (by decide)⟩
    rw [if_neg q2]
    by_cases q3 : c < 32 ∨ (127 < c ∧ c < 194) ∨ 244 < c
    · rw [if_pos q3]; intro k; cases k
    rw [if_neg q3]
    by_cases q4 : c < 128
    · rw [if_pos q4]
      intro _ _
      exact ⟨fun k => absurd (show st.mode = 3 from k) (by omega), fun k => absurd (show st.mode = 4 ∨ st.mode = 5 from k) (by omega), fun k => absurd (show st.mode = 6 from k) (by omega)⟩
    rw [if_neg q4]
    intro _ _
    refine ⟨fun k => absurd (show (6 : Int) = 3 from k) (by decide), fun k => by rcases k with k | k <;> exact absurd (show (6 : Int) = _ from k) (by decide), fun _ => ?_⟩
    have e1 : loB c = if c = 224 then 160 else if c = 240 then 144 else 128 := rfl
    have e2 : hiB c = if c = 237 then 159 else if c = 244 then 143 else 191 := rfl
    simp only []
    by_cases r1 : 240 ≤ c
    · rw [if_pos r1]
      refine ⟨fun k => absurd k (by decide), fun k => absurd k (by decide), fun _ => ?_⟩
      rw [e1, e2, if_neg (show ¬ c = 224 by omega), if_neg (show ¬ c = 237 by omega)]
      by_cases r2 : c = 240
      · rw [if_pos r2, if_neg (by omega)]; left; omega
      · rw [if_neg r2]; right; split <;> omega
    · rw [if_neg r1]
      by_cases r2 : 224 ≤ c
      · rw [if_pos r2]
        refine ⟨fun k => absurd k (by decide), fun _ => ?_, fun k => absurd k (by decide)⟩
        rw [e1, e2, if_neg (show ¬ c = 240 by omega), if_neg (show ¬ c = 244 by omega)]
        by_cases r3 : c = 224
        · rw [if_pos r3, if_neg (by omega)]; right; omega
        · rw [if_neg r3]; left; split <;> omega
      · rw [if_neg r2]
        refine ⟨fun _ => ?_, fun k => absurd k (by decide), fun k => absurd k (by decide)⟩
        rw [e1, e2, if_neg (show ¬ c = 224 by omega), if_neg (show ¬ c = 240 by omega), if_neg (show ¬ c = 237 by omega), if_neg (show ¬ c = 244 by omega)]
        omega
  · rw [if_neg (by omega), if_neg (by omega), if_pos m]
    unfold strokeStep
    split
    · intro _ _
      exact ⟨fun k => absurd (show (1 : Int) = 3 from k) (by decide), fun k => by rcases k with k | k <;> exact absurd (show (1 : Int) = _ from k) (by decide), fun k => absurd (show (1 : Int) = 6 from k) (by decide)⟩
    · intro _ _
      exact ⟨fun _ _ k => absurd (show (4 : Int) = 3 from k) (by decide), fun k => by rcases k with k | k <;> exact absurd (show (3 : Int) = _ from k) (by decide), fun k => absurd (show (3 : Int) = 6 from k) (by decide)⟩
  · rw [if_neg (by omega), if_neg (by omega), if_neg (by omega), if_pos m]
    unfold digitsStep
    by_cases q0 : digZ c < 0
    · rw [if_pos q0]; intro k; cases k
    rw [if_neg q0]
    by_cases q4 : st.left = 4
    · rw [if_pos q4]
      intro k _
      have k := of_decide_eq_true k
      exact ⟨fun _ hp _ => (by have hp : 0 < st.high := hp; rcases k with k | k; omega; exact k), fun k => absurd (show st.mode = 4 ∨ st.mode = 5 from k) (by omega), fun k => absurd (show st.mode = 6 from k) (by omega)⟩
    rw [if_neg q4]
    by_cases q3 : st.left = 3
    · rw [if_pos q3]
      intro _ _
      exact ⟨fun _ _ k => absurd (show (2 : Int) = 3 from k) (by decide), fun k => absurd (show st.mode = 4 ∨ st.mode = 5 from k) (by omega), fun k => absurd (show st.mode = 6 from k) (by omega)⟩
    rw [if_neg q3]
    by_cases q2 : st.left = 2
    · rw [if_pos q2]
      intro _ _
      exact ⟨fun _ _ k => absurd (show (1 : Int) = 3 from k) (by decide), fun k => absurd (show st.mode = 4 ∨ st.mode = 5 from k) (by omega), fun k => absurd (show st.mode = 6 from k) (by omega)⟩
    rw [if_neg q2]
    by_cases qh : 0 < st.high
    · rw [if_pos qh]
      intro _ _
      exact ⟨fun k => absurd (show (1 : Int) = 3 from k) (by decide), fun k => by rcases k with k | k <;> exact absurd (show (1 : Int) = _ from k) (by decide), fun k => absurd (show (1 : Int) = 6 from k) (by decide)⟩
    rw [if_neg qh]
    by_cases qv : 55296 ≤ 16 * st.number + digZ c ∧ 16 * st.number + digZ c ≤ 56319
    · rw [if_pos qv]
      intro _ _
      exact ⟨fun k => absurd (show (4 : Int) = 3 from k) (by decide), fun _ => by show 0 < 16 * st.number + digZ c; omega, fun k => absurd (show (4 : Int) = 6 from k) (by decide)⟩
    · rw [if_neg qv]
      intro _ _
      exact ⟨fun k => absurd (show (1 : Int) = 3 from k) (by decide), fun k => by rcases k with k | k <;> exact absurd (show (1 : Int) = _ from k) (by decide), fun k => absurd (show (1 : Int) = 6 from k) (by decide)⟩
  · rw [if_neg (by omega), if_neg (by omega), if_neg (by omega), if_neg (by omega), if_pos m]
    intro _ _
    exact ⟨fun k => absurd (show (5 : Int) = 3 from k) (by decide), fun _ => hp4 (.inl m), fun k => absurd (show (5 : Int) = 6 from k) (by decide)⟩
  · rw [if_neg (by omega), if_neg (by omega), if_neg (by omega), if_neg (by omega), if_neg (by omega), if_pos m]
    intro _ _
    exact ⟨fun _ _ k => absurd (show (4 : Int) = 3 from k) (by decide), fun k => by rcases k with k | k <;> exact absurd (show (3 : Int) = _ from k) (by decide), fun k => absurd (show (3 : Int) = 6 from k) (by decide)⟩
  · rw [if_neg (by omega), if_neg (by omega), if_neg (by omega), if_neg (by omega), if_neg (by omega), if_neg (by omega), if_pos m]
    unfold bytesStep
    by_cases q : c < st.low ∨ st.most < c
    · rw [if_pos q]; intro k; cases k
    rw [if_neg q]
    intro _ _
    refine ⟨fun k => ?_, fun k => ?_, fun _ => ⟨fun _ => ⟨Nat.le_refl _, (show 128 ≤ 191 by decide)⟩, fun _ => .inl ⟨Nat.le_refl _, (show 128 ≤ 191 by decide)⟩, fun _ => .inr ⟨Nat.le_refl _, (show 128 ≤ 191 by decide)⟩⟩⟩
    · have k : (if st.left - 1 = 0 then 1 else st.mode) = (3 : Int) := k
      split at k <;> omega
    · have k : (if st.left - 1 = 0 then 1 else st.mode) = (4 : Int) ∨ (if st.left - 1 = 0 then 1 else st.mode) = (5 : Int) := k
      split at k <;> omega
  · exact absurd m hn7
theorem feed_InP : ∀ (l : List Nat) (st st' : St), InP st → feed st l = some st' → InP st' := by
  intro l
  induction l with
  | nil => intro st st' h hf; cases hf; exact h
  | cons c l ih =>
    intro st st' h hf
    unfold feed at hf
    by_cases q : (stepF st c).2 = true ∧ (stepF st c).1.mode ≠ 7
    · rw [if_pos q] at hf
      exact ih _ _ (step_InP st c h q.1 q.2) hf
    · rw [if_neg q] at hf; cases hf
theorem InP_Z : InP StZ := ⟨InS_Z, by decide, fun k => absurd k (by decide), fun k => absurd k (by decide), fun k => absurd k (by decide)⟩

theorem feed_cons {st : St} {c : Nat} {l : List Nat} (h1 : ¬ (stepF st c).2 = false) (h2 : ¬ (stepF st c).1.mode = 7) : feed st (c :: l) = feed (stepF st c).1 l := by
  show (if _ then _ else _) = _
  rw [if_pos ⟨by simpa using h1, h2⟩]
theorem scanG_err (b : Nat → Nat) : ∀ (f i : Nat) (st : St) (k : Nat), scanG b f i st = .error k → i ≤ k ∧ k ≤ i + f ∧ ∃ st', feed st (bytesAt b i (k - i)) = some st' ∧ (k < i + f → (stepF st' (b k)).2 = false) := by
  intro f
  induction f with
  | zero =>
    intro i st k h
    have h : Except.error i = Except.error k := h
    injection h with h
    subst h
    exact ⟨Nat.le_refl _, Nat.le_refl _, st, by rw [Nat.sub_self]; rfl, fun k => absurd k (by omega)⟩
  | succ f ih =>
    intro i st k h
    rw [scanG] at h
    by_cases h1 : (stepF st (b i)).2 = false
    · rw [if_pos h1] at h
      injection h with h
      subst h
      exact ⟨Nat.le_refl _, by omega, st, by rw [Nat.sub_self]; rfl, fun _ => h1⟩
    · rw [if_neg h1] at h
      by_cases h2 : (stepF st (b i)).1.mode = 7
      · rw [if_pos h2] at h; cases h
      · rw [if_neg h2] at h
        obtain ⟨g1, g2, st', g3, g4⟩ := ih _ _ _ h
        refine ⟨by omega, by omega, st', ?_, fun q => g4 (by omega)⟩
        rw [show k - i = (k - (i + 1)) + 1 by omega, bytesAt_succ, feed_cons h1 h2]
        exact g3
theorem scanG_okl (b : Nat → Nat) : ∀ (f i : Nat) (st : St) (t : List Nat) (n : Nat), scanG b f i st = .ok (t, n) → i < n ∧ ∀ k, i ≤ k → k < n → ∃ st', feed st (bytesAt b i (k - i)) = some st' := by
  intro f
  induction f with
  | zero => intro i st t n h; cases h
  | succ f ih =>
    intro i st t n h
    rw [scanG] at h
    by_cases h1 : (stepF st (b i)).2 = false
    · rw [if_pos h1] at h; cases h
    · rw [if_neg h1] at h
      by_cases h2 : (stepF st (b i)).1.mode = 7
      · rw [if_pos h2] at h
        injection h with h
        injection h with h3 h4
        refine ⟨by omega, fun k k1 k2 => ⟨st, ?_⟩⟩
        rw [show k - i = 0 by omega]; rfl
      · rw [if_neg h2] at h
        obtain ⟨g1, g2⟩ := ih _ _ _ _ h
        refine ⟨by omega, fun k k1 k2 => ?_⟩
        by_cases q : k = i
        · exact ⟨st, by rw [show k - i = 0 by omega]; rfl⟩
        · obtain ⟨st', g3⟩ := g2 k (by omega) k2
          refine ⟨st', ?_⟩
          rw [show k - i = (k - (i + 1)) + 1 by omega, bytesAt_succ, feed_cons h1 h2]
          exact g3

def Live (p : ByteArray) : Prop := ∃ st, feed StZ (bytesAt (bt p) 0 p.size) = some st
def Dead (p : ByteArray) (k : Nat) : Prop := k < p.size ∧ ∃ st, feed StZ (bytesAt (bt p) 0 k) = some st ∧ (stepF st (bt p k)).2 = false
theorem bt_left (p z : ByteArray) (i : Nat) (h : i < p.size) : bt (p ++ z) i = bt p i := by
  rw [bt_in (s := p ++ z) (by simp; omega), bt_in h, ByteArray.getElem_append_left h]
theorem bt_right (p z : ByteArray) (i : Nat) (h : i < z.size) : bt (p ++ z) (p.size + i) = bt z i := by
  rw [bt_in (s := p ++ z) (by simp; omega), bt_in h, ByteArray.getElem_append_right (by omega)]
  simp
theorem bytes_getD (b : Nat → Nat) (k n j : Nat) (h : j < n) : (bytesAt b k n).getD j 0 = b (k + j) := by
  unfold bytesAt
  simp [List.getD, h]
theorem endB_byte : ∀ j, j < 18 → ByteL (endB j ++ [34]) := by
  have h : ∀ j : Fin 18, ((endB j.val ++ [34]).all fun x => decide (x < 256)) = true := by decide +kernel
  intro j hj x hx
  have := List.all_eq_true.1 (h ⟨j, hj⟩) x hx
  simpa using this
theorem live_goes (p : ByteArray) (h : Live p) : ∃ j, j < 18 ∧ ∃ t, unqQ (p ++ endS j) (scanQ (p ++ endS j) 0) = .ok t := by
  obtain ⟨st, hf⟩ := h
  obtain ⟨j, hj, st', g1, g2⟩ := ends_ok st (feed_InP _ _ _ InP_Z hf)
  refine ⟨j, hj, st'.text, ?_⟩
  have hby := endB_byte j hj
  have hes : (endS j).size = (endB j).length + 1 := by unfold endS; rw [strOf_size, List.length_append]; rfl
  have hsz : (p ++ endS j).size = p.size + ((endB j).length + 1) := by simp [hes]
  have hlen : (bytesAt (bt p) 0 p.size).length = p.size := bytesAt_len _ _ _
  have key : scanQ (p ++ endS j) 0 = .ok (st'.text, (p ++ endS j).size) := by
    rw [← scan_law _ 0 (Nat.zero_le _)]
    unfold scanAt
    rw [scanG_feed (bt (p ++ endS j)) (p ++ endS j).size (bytesAt (bt p) 0 p.size) 0 StZ st (fun i hi => by
      rw [hlen] at hi
      rw [bytes_getD _ _ _ _ hi, Nat.zero_add, bt_left _ _ _ hi]) (by rw [hlen, hsz]; omega) hf, hlen, Nat.zero_add]
    rw [scanG_feed (bt (p ++ endS j)) (p ++ endS j).size (endB j) p.size st st' (fun i hi => by
      rw [bt_right _ _ _ (by rw [hes]; omega)]
      unfold endS
      rw [bt_strOf _ hby i (by rw [List.length_append]; omega)]
      simp [List.getD, List.getElem?_append_left hi]) (by rw [hsz]; omega) g1]
    have hlast : bt (p ++ endS j) (p.size + (endB j).length) = 34 := by
      rw [bt_right _ _ _ (by rw [hes]; omega)]
      unfold endS
      rw [bt_strOf _ hby _ (by rw [List.length_append]; simp)]
      simp [List.getD]
    have hs : stepF st' (bt (p ++ endS j) (p.size + (endB j).length)) = ({ st' with mode := 7 }, true) := by
      rw [step1 st' _ g2, hlast]; rfl
    rw [scanG_end (bt (p ++ endS j)) (p ++ endS j).size (p.size + (endB j).length) st' _ (by rw [hsz]; omega) hs rfl]
    show Except.ok (st'.text, _) = _
    rw [hsz]; rfl
  rw [key]
  exact if_neg (Nat.lt_irrefl _)
theorem dead_goes (p : ByteArray) (k : Nat) (h : Dead p k) (z : ByteArray) : unqQ (p ++ z) (scanQ (p ++ z) 0) = .error k := by
  obtain ⟨hk, st, hf, hd⟩ := h
  have hsz : (p ++ z).size = p.size + z.size := by simp
  have hlen : (bytesAt (bt p) 0 k).length = k := bytesAt_len _ _ _
  have key : scanQ (p ++ z) 0 = .error k := by
    rw [← scan_law _ 0 (Nat.zero_le _)]
    unfold scanAt
    rw [scanG_feed (bt (p ++ z)) (p ++ z).size (bytesAt (bt p) 0 k) 0 StZ st (fun i hi => by
      rw [hlen] at hi
      rw [bytes_getD _ _ _ _ hi, Nat.zero_add, bt_left _ _ _ (by omega)]) (by rw [hlen, hsz]; omega) hf, hlen, Nat.zero_add]
    exact scanG_fail _ _ _ _ (fun _ => by rw [bt_left _ _ _ hk]; exact hd)
  rw [key]; rfl
theorem live_scan (p : ByteArray) (h : Live p) : scanQ p 0 = .error p.size := by
  obtain ⟨st, hf⟩ := h
  have hlen : (bytesAt (bt p) 0 p.size).length = p.size := bytesAt_len _ _ _
  rw [← scan_law _ 0 (Nat.zero_le _)]
  unfold scanAt
  rw [scanG_feed (bt p) p.size (bytesAt (bt p) 0 p.size) 0 StZ st (fun i hi => by
    rw [hlen] at hi
    rw [bytes_getD _ _ _ _ hi]) (by rw [hlen]; omega) hf, hlen, Nat.zero_add, Nat.sub_self]
  rfl
theorem bt_pre (s : ByteArray) (m i : Nat) (hm : m ≤ s.size) (h : i < m) : bt (s.extract 0 m) i = bt s i := by
  have hs : (s.extract 0 m).size = m := by simp; omega
  rw [bt_in (s := s.extract 0 m) (by rw [hs]; exact h), bt_in (s := s) (by omega), ByteArray.getElem_extract]
  simp
theorem bytes_pre (s : ByteArray) (m n : Nat) (hm : m ≤ s.size) (h : n ≤ m) : bytesAt (bt (s.extract 0 m)) 0 n = bytesAt (bt s) 0 n := by
  unfold bytesAt
  apply List.map_congr_left
  intro j hj
  have := List.mem_range.1 hj
  exact bt_pre s m (0 + j) hm (by omega)
theorem pre_size (s : ByteArray) (m : Nat) (hm : m ≤ s.size) : (s.extract 0 m).size = m := by simp; omega
theorem places_err (s : ByteArray) (k : Nat) (h : scanQ s 0 = .error k) : k ≤ s.size ∧ Live (s.extract 0 k) ∧ (k < s.size → Dead (s.extract 0 (k + 1)) k) := by
  rw [← scan_law _ 0 (Nat.zero_le _)] at h
  obtain ⟨g1, g2, st, g3, g4⟩ := scanG_err _ _ _ _ _ h
  have hk : k ≤ s.size := by omega
  rw [Nat.sub_zero] at g3
  refine ⟨hk, ⟨st, ?_⟩, fun hlt => ⟨?_, st, ?_, ?_⟩⟩
  · rw [pre_size s k hk, bytes_pre s k k hk (Nat.le_refl _)]; exact g3
  · rw [pre_size s (k + 1) hlt]; omega
  · rw [bytes_pre s (k + 1) k hlt (by omega)]; exact g3
  · rw [bt_pre s (k + 1) k hlt (by omega)]; exact g4 (by omega)
theorem places_ok (s : ByteArray) (t : List Nat) (n : Nat) (h : scanQ s 0 = .ok (t, n)) : 2 ≤ n ∧ n ≤ s.size ∧ ∀ k, k < n → Live (s.extract 0 k) := by
  have hle := scanQ_le s t n h
  have h' := h
  rw [← scan_law _ 0 (Nat.zero_le _)] at h
  obtain ⟨g1, g2⟩ := scanG_okl _ _ _ _ _ _ h
  refine ⟨?_, hle, fun k hk => ?_⟩
  · by_cases q : 2 ≤ n
    · exact q
    · exfalso
      have hn : n = 1 := by omega
      subst hn
      have h1 : scanG (bt s) (s.size - 0) 0 StZ = .ok (t, 1) := h
      have hlt : 0 < s.size := by omega
      by_cases h34 : bt s 0 = 34
      · have hs : stepF StZ (bt s 0) = ({ StZ with mode := 1 }, true) := by
          unfold stepF
          rw [if_pos (show StZ.mode = 0 from rfl), decide_eq_true h34]
        rw [scanG_go (bt s) s.size 0 StZ _ hlt hs (show (1 : Int) ≠ 7 by decide)] at h1
        have := (scanG_okl _ _ _ _ _ _ h1).1
        omega
      · rw [scanG_fail (bt s) s.size 0 StZ (fun _ => by unfold stepF; rw [if_pos (show StZ.mode = 0 from rfl)]; exact decide_eq_false h34)] at h1
        cases h1
  · obtain ⟨st, hf⟩ := g2 k (Nat.zero_le _) hk
    rw [Nat.sub_zero] at hf
    exact ⟨st, by rw [pre_size s k (by omega), bytes_pre s k k (by omega) (Nat.le_refl _)]; exact hf⟩
end Go.Proofs.YtiignmjglihbnaaDoor
