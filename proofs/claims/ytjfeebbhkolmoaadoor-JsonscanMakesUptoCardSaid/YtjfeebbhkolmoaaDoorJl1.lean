/- Plain law: a text that begins with a quote, at a value's place: as chapter 10 has the literal, then blanks. -/
import Derived.Test.YtjfeebbhkolmoaaDoorJl0
import Derived.Test.YtjfeebbhkolmoaaDoorWCuts
namespace Go.Proofs.YtjfeebbhkolmoaaDoor.E
open Go.RowKit
set_option linter.unusedVariables false

theorem bt_bnat (s : ByteArray) (k : Nat) (hk : k < s.size) : bt s k = (bnat s).getD k 0 := by
  rw [List.getD_eq_getElem?_getD, List.getElem?_eq_getElem (by rw [bnat_len]; exact hk)]
  show bt s k = (bnat s)[k]'(by rw [bnat_len]; exact hk)
  rw [bnat_at s k hk, bt_in hk]
/-- at a value's place, nothing open -/
structure AtVal (p : Sc) : Prop where
  k : p.k = jValue
  op : p.open_ = []
  dn : p.done = false
  bad : p.bad = 0
/-- a value has ended, nothing open -/
structure AtEnd (p : Sc) : Prop where
  k : p.k = jAfter
  op : p.open_ = []
  dn : p.done = true
  bad : p.bad = 0
theorem sc0_val : AtVal Sc0 := ⟨rfl, rfl, rfl, rfl⟩
theorem val_blank {p : Sc} (h : AtVal p) {c : Nat} (hc : blankB c = true) : AtVal (pfeed p c) ∧ (pfeed p c).size = p.size + 1 := by
  have hp : pstep p c = (p, 0) := by rw [ps_Value p c h.k]; exact if_pos hc
  rw [pfeed_ok p p c h.bad hp]
  exact ⟨⟨h.k, h.op, h.dn, rfl⟩, rfl⟩
theorem val_blanks : ∀ (l : List Nat) (p : Sc), AtVal p → (∀ c ∈ l, blankB c = true) → AtVal (pwrite p l) ∧ (pwrite p l).size = p.size + l.length := by
  intro l
  induction l with
  | nil => intro p h _; exact ⟨h, by show p.size = p.size + ((0 : Nat) : Int); omega⟩
  | cons x l ih =>
    intro p h hb
    obtain ⟨h1, h2⟩ := val_blank h (hb x (by simp))
    obtain ⟨h3, h4⟩ := ih _ h1 (fun c hc => hb c (by simp [hc]))
    refine ⟨h3, ?_⟩
    show (pwrite (pfeed p x) l).size = _
    rw [h4, h2, List.length_cons]
    omega
theorem end_blank {p : Sc} (h : AtEnd p) {c : Nat} (hc : blankB c = true) : AtEnd (pfeed p c) ∧ (pfeed p c).size = p.size + 1 := by
  have hp : pstep p c = (sTo p jAfter true, 0) := by rw [ps_After p c h.k]; exact if_pos hc
  rw [pfeed_ok p _ c h.bad hp]
  exact ⟨⟨rfl, h.op, rfl, rfl⟩, rfl⟩
theorem end_blanks : ∀ (l : List Nat) (p : Sc), AtEnd p → (∀ c ∈ l, blankB c = true) → AtEnd (pwrite p l) ∧ (pwrite p l).size = p.size + l.length := by
  intro l
  induction l with
  | nil => intro p h _; exact ⟨h, by show p.size = p.size + ((0 : Nat) : Int); omega⟩
  | cons x l ih =>
    intro p h hb
    obtain ⟨h1, h2⟩ := end_blank h (hb x (by simp))
    obtain ⟨h3, h4⟩ := ih _ h1 (fun c hc => hb c (by simp [hc]))
    refine ⟨h3, ?_⟩
    show (pwrite (pfeed p x) l).size = _
    rw [h4, h2, List.length_cons]
    omega
theorem end_other {p : Sc} (h : AtEnd p) (c : Nat) (l : List Nat) (hc : ¬ blankB c = true) : pclose (pwrite p (c :: l)) = 3 ∧ (pwrite p (c :: l)).size = p.size := by
  have hp : pstep p c = (p, 3) := by
    rw [ps_After p c h.k]
    unfold pAfter
    rw [if_neg hc, if_pos h.op]
  have hw : pwrite p (c :: l) = sTell p 3 p.size := by
    show pwrite (pfeed p c) l = _
    rw [pfeed_no p p c 3 (by decide) h.bad hp]
    exact pwrite_bad _ _ (by show (3 : Nat) ≠ 0; decide)
  rw [hw]
  exact ⟨rfl, rfl⟩
theorem end_close {p : Sc} (h : AtEnd p) : pclose p = 0 := by
  unfold pclose
  rw [if_pos h.bad, if_pos ⟨h.dn, h.op⟩]
/-- the literal of a text, at a value's place: what chapter 10 tells of it -/
theorem law_lit (s : ByteArray) (h0 : 0 < s.size) (hq : bt s 0 = 34) (p : Sc) (h : AtVal p) :
    match scanQ s 0 with
    | .error j => j ≤ s.size ∧ pclose (pwrite p (bnat s)) = 3 ∧ (pwrite p (bnat s)).size = p.size + (j : Int)
    | .ok (_, j) => j ≤ s.size ∧ AtEnd (pwrite p ((bnat s).take j)) ∧ (pwrite p ((bnat s).take j)).size = p.size + (j : Int) := by
  rw [← scan_law s 0 (Nat.zero_le _)]
  obtain ⟨x, m, hm⟩ : ∃ x m, bnat s = x :: m := by
    rcases hb : bnat s with _ | ⟨x, m⟩
    · have := bnat_len s; rw [hb] at this; simp at this; omega
    · exact ⟨x, m, rfl⟩
  have hlen : s.size = m.length + 1 := by rw [← bnat_len, hm]; rfl
  have hx : x = 34 := by rw [← hq, bt_bnat s 0 h0, hm]; rfl
  subst hx
  have hp : pstep p 34 = (sTo (sKey p false) jText false, 0) := by
    rw [ps_Value p 34 h.k]
    rfl
  have hf := pfeed_ok p _ 34 h.bad hp
  have hw : ∀ l, pwrite p (34 :: l) = pwrite (sTell (sTo (sKey p false) jText false) 0 (p.size + 1)) l := by
    intro l
    show pwrite (pfeed p 34) l = _
    rw [hf]; rfl
  have hl : LitE (sTell (sTo (sKey p false) jText false) 0 (p.size + 1)) { StZ with mode := 1 } :=
    ⟨rfl, ⟨.inr (.inl rfl), .inl rfl, fun e => absurd (show (1 : Int) = 3 from e) (by decide), fun e => absurd (show (1 : Int) = 6 from e) (by decide)⟩, .inl ⟨rfl, rfl, rfl⟩⟩
  have hrun := lit_run (bt s) m 1 _ _ hl rfl (fun k hk => by
    rw [bt_bnat s (1 + k) (by omega), hm, show 1 + k = k + 1 by omega]; simp)
  have hscan : scanAt s 0 = scanG (bt s) m.length 1 { StZ with mode := 1 } := by
    unfold scanAt
    rw [show s.size - 0 = m.length + 1 by omega]
    show (if (stepF StZ (bt s 0)).2 = false then Except.error 0 else if (stepF StZ (bt s 0)).1.mode = 7 then Except.ok ((stepF StZ (bt s 0)).1.text, 0 + 1) else scanG (bt s) m.length (0 + 1) (stepF StZ (bt s 0)).1) = scanG (bt s) m.length 1 { StZ with mode := 1 }
    rw [hq]
    rfl
  rw [hscan]
  rcases hr : scanG (bt s) m.length 1 { StZ with mode := 1 } with j | ⟨tx, j⟩
  · rw [hr] at hrun
    obtain ⟨e1, e2, e3, e4⟩ := hrun
    show j ≤ s.size ∧ pclose (pwrite p (bnat s)) = 3 ∧ (pwrite p (bnat s)).size = p.size + (j : Int)
    rw [hm, hw]
    refine ⟨by omega, e3, ?_⟩
    rw [e4]
    show p.size + 1 + ((j - 1 : Nat) : Int) = _
    omega
  · rw [hr] at hrun
    obtain ⟨e1, e2, e3, e4, e5, e6, e7⟩ := hrun
    show j ≤ s.size ∧ AtEnd (pwrite p ((bnat s).take j)) ∧ (pwrite p ((bnat s).take j)).size = p.size + (j : Int)
    have ht : (bnat s).take j = 34 :: m.take (j - 1) := by
      rw [hm, show j = (j - 1) + 1 by omega]; rfl
    rw [ht, hw]
    refine ⟨by omega, ⟨e6, e5.trans h.op, e7, e3⟩, ?_⟩
    rw [e4]
    show p.size + 1 + ((j - 1 : Nat) : Int) = _
    omega
/-- behind the literal: blanks up to n; there: the end, or what is no blank -/
theorem law_behind (s : ByteArray) (p : Sc) (j n : Nat) (hj : j ≤ n) (hn : n ≤ s.size) (he : AtEnd (pwrite p ((bnat s).take j))) (hz : (pwrite p ((bnat s).take j)).size = p.size + (j : Int)) (hb : ∀ i, j ≤ i → i < n → blankB (bt s i) = true) :
    AtEnd (pwrite p ((bnat s).take n)) ∧ (pwrite p ((bnat s).take n)).size = p.size + (n : Int) ∧ (∀ hlt : n < s.size, ¬ blankB (bt s n) = true → pclose (pwrite p (bnat s)) = 3 ∧ (pwrite p (bnat s)).size = p.size + (n : Int)) := by
  have hl : (bnat s).length = s.size := bnat_len s
  have hsplit : (bnat s).take n = (bnat s).take j ++ ((bnat s).take n).drop j := by
    have h1 := List.take_append_drop j ((bnat s).take n)
    rw [List.take_take, Nat.min_eq_left hj] at h1
    exact h1.symm
  have hbl : ∀ c ∈ ((bnat s).take n).drop j, blankB c = true := by
    intro c hc
    obtain ⟨i, hi, rfl⟩ := List.getElem_of_mem hc
    have hi' : j + i < n := by rw [List.length_drop, List.length_take] at hi; omega
    have := hb (j + i) (by omega) hi'
    rw [bt_bnat s (j + i) (by omega)] at this
    rw [List.getElem_drop, List.getElem_take]
    rw [List.getD_eq_getElem?_getD, List.getElem?_eq_getElem (by omega)] at this
    exact this
  obtain ⟨h1, h2⟩ := end_blanks _ _ he hbl
  rw [← pwrite_app, ← hsplit] at h1 h2
  have hlen : (((bnat s).take n).drop j).length = n - j := by rw [List.length_drop, List.length_take]; omega
  have hsz : (pwrite p ((bnat s).take n)).size = p.size + (n : Int) := by rw [h2, hz, hlen]; omega
  refine ⟨h1, hsz, fun hlt hnb => ?_⟩
  have hrest : bnat s = (bnat s).take n ++ (bt s n) :: (bnat s).drop (n + 1) := by
    conv => lhs; rw [← List.take_append_drop n (bnat s)]
    congr 1
    rw [List.drop_eq_getElem_cons (by omega)]
    congr 1
    rw [bt_bnat s n hlt, List.getD_eq_getElem?_getD, List.getElem?_eq_getElem (by omega)]
    rfl
  obtain ⟨e1, e2⟩ := end_other h1 (bt s n) ((bnat s).drop (n + 1)) hnb
  rw [← pwrite_app, ← hrest] at e1 e2
  exact ⟨e1, e2.trans hsz⟩
end Go.Proofs.YtjfeebbhkolmoaaDoor.E
