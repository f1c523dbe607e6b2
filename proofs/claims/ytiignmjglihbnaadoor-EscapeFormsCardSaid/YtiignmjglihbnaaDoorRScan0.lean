/- Plain side of crucibleref10.Scan: byte by byte. -/
import Derived.Test.YtiignmjglihbnaaDoorStepAll
import Derived.Test.YtiignmjglihbnaaDoorRQuote
namespace Go.Proofs.YtiignmjglihbnaaDoor
open Go.RowKit
set_option linter.unusedVariables false

def scanG (b : Nat → Nat) : Nat → Nat → St → Except Nat (List Nat × Nat)
  | 0, i, _ => .error i
  | f + 1, i, s => if (stepF s (b i)).2 = false then .error i else if (stepF s (b i)).1.mode = 7 then .ok ((stepF s (b i)).1.text, i + 1) else scanG b f (i + 1) (stepF s (b i)).1
def StZ : St := { mode := 0, left := 0, number := 0, high := 0, low := 0, most := 0, text := [] }
def scanAt (s : ByteArray) (a : Nat) : Except Nat (List Nat × Nat) := scanG (bt s) (s.size - a) a StZ
def faultV (code a : Int) : Value := .agg #[.int .i64 code, .int .i64 a, .string ⟨#[]⟩]
def rscanV : Except Nat (List Nat × Nat) → Value
  | .error i => .tuple #[.string ⟨#[]⟩, .int .i64 0, faultV 3 i]
  | .ok (t, n) => .tuple #[.string (strOf t), .int .i64 n, faultV 0 0]

theorem InS_Z : InS StZ := ⟨.inl rfl, .inl rfl, fun k => absurd k (by decide), fun k => absurd k (by decide)⟩

def ByteL (l : List Nat) : Prop := ∀ x ∈ l, x < 256
theorem ByteL.app {l m : List Nat} (h : ByteL l) (h' : ByteL m) : ByteL (l ++ m) := by
  intro x hx
  rcases List.mem_append.1 hx with hx | hx
  · exact h x hx
  · exact h' x hx
theorem ByteL.one {c : Nat} (h : c < 256) : ByteL [c] := by intro x hx; simp at hx; omega
theorem encN_byte (n : Nat) (h : n < 1114112) : ByteL (encN n) := by
  intro x hx
  unfold encN at hx
  split at hx
  · simp at hx; omega
  split at hx
  · simp at hx; omega
  split at hx
  · simp at hx; omega
  · simp at hx; omega
theorem letM_lt (c m : Nat) (h : letM c = some m) : m < 256 := by
  unfold letM at h
  repeat' split at h
  all_goals (cases h; try decide)
theorem step_byte (s : St) (c : Nat) (hc : c < 256) (hi : InS s) (hb : ByteL s.text) : ByteL (stepF s c).1.text := by
  obtain ⟨hm, hh, h3, h6⟩ := hi
  have hr := (digZ_range c).2
  unfold stepF
  rcases hm with m | m | m | m | m | m | m | m
  · rw [if_pos m]; exact hb
  · rw [if_neg (by omega), if_pos m]; unfold inside; repeat' split
    all_goals first | exact hb | exact hb.app (.one hc)
  · rw [if_neg (by omega), if_neg (by omega), if_pos m]; unfold strokeStep; split
    · rename_i h; exact hb.app (.one (letM_lt c _ h))
    · exact hb
  · rw [if_neg (by omega), if_neg (by omega), if_neg (by omega), if_pos m]
    obtain ⟨i1, i2, i3, i4, i5, i6, i7, i8⟩ := h3 m
    unfold digitsStep
    generalize digZ c = d at *
    split
    · exact hb
    rename_i hd
    split
    · exact hb
    rename_i h4
    split
    · exact hb
    rename_i h3'
    split
    · exact hb
    rename_i h2
    have := i7 (by omega)
    split
    · rename_i hp
      have := (i8 hp).2 (by omega)
      exact hb.app (encN_byte _ (by unfold InH at hh; omega))
    split
    · exact hb
    · exact hb.app (encN_byte _ (by omega))
  · rw [if_neg (by omega), if_neg (by omega), if_neg (by omega), if_neg (by omega), if_pos m]; exact hb
  · rw [if_neg (by omega), if_neg (by omega), if_neg (by omega), if_neg (by omega), if_neg (by omega), if_pos m]; exact hb
  · rw [if_neg (by omega), if_neg (by omega), if_neg (by omega), if_neg (by omega), if_neg (by omega), if_neg (by omega), if_pos m]; unfold bytesStep; split
    · exact hb
    · exact hb.app (.one hc)
  · rw [if_neg (by omega), if_neg (by omega), if_neg (by omega), if_neg (by omega), if_neg (by omega), if_neg (by omega), if_neg (by omega)]; exact hb

/-- so many bytes of a piece stood already that said nothing yet -/
def pend (s : St) : Int := if s.mode = 2 then 1 else if s.mode = 3 then 6 - s.left else if s.mode = 4 then 6 else if s.mode = 5 then 7 else 0
theorem pend_0 {s : St} (h : s.mode = 0 ∨ s.mode = 1 ∨ s.mode = 6 ∨ s.mode = 7) : pend s = 0 := by
  unfold pend
  rw [if_neg (by omega), if_neg (by omega), if_neg (by omega), if_neg (by omega)]
theorem step_pend (s : St) (c : Nat) (hi : InS s) (hok : (stepF s c).2 = true) : ((stepF s c).1.text.length : Int) + pend (stepF s c).1 ≤ (s.text.length : Int) + pend s + 1 := by
  obtain ⟨hm, hh, h3, h6⟩ := hi
  revert hok
  unfold stepF
  rcases hm with m | m | m | m | m | m | m | m
  · rw [if_pos m]; intro _
    rw [pend_0 (s := s) (by omega), pend_0 (s := ({ s with mode := 1 }, decide (c = 34)).1) (.inr (.inl rfl))]
    show (s.text.length : Int) + 0 ≤ _; omega
  · rw [if_neg (by omega), if_pos m, pend_0 (s := s) (by omega)]
    unfold inside
    by_cases q1 : c = 34
    · rw [if_pos q1]; intro _; rw [pend_0 (.inr (.inr (.inr rfl)))]; show (s.text.length : Int) + 0 ≤ _; omega
    rw [if_neg q1]
    by_cases q2 : c = 92
    · rw [if_pos q2]; intro _; show (s.text.length : Int) + 1 ≤ _; omega
    rw [if_neg q2]
    by_cases q3 : c < 32 ∨ (127 < c ∧ c < 194) ∨ 244 < c
    · rw [if_pos q3]; intro k; cases k
    rw [if_neg q3]
    by_cases q4 : c < 128
    · rw [if_pos q4]; intro _; have e := pend_0 (s := { s with text := s.text ++ [c] }) (.inr (.inl m)); show ((s.text ++ [c]).length : Int) + pend { s with text := s.text ++ [c] } ≤ _; rw [e, List.length_append]; show (((s.text.length + 1 : Nat)) : Int) + 0 ≤ _; omega
    rw [if_neg q4]; intro _; rw [pend_0 (.inr (.inr (.inl rfl)))]; show ((s.text ++ [c]).length : Int) + 0 ≤ _; rw [List.length_append]; show (((s.text.length + 1 : Nat)) : Int) + 0 ≤ _; omega
  · rw [if_neg (by omega), if_neg (by omega), if_pos m]
    have hp : pend s = 1 := if_pos m
    rw [hp]
    unfold strokeStep
    split
    · rename_i x hx
      intro _; rw [pend_0 (.inr (.inl rfl))]; show ((s.text ++ [x]).length : Int) + 0 ≤ _; rw [List.length_append]; show (((s.text.length + 1 : Nat)) : Int) + 0 ≤ _; omega
    · intro _; show (s.text.length : Int) + (6 - 4) ≤ _; omega
  · rw [if_neg (by omega), if_neg (by omega), if_neg (by omega), if_pos m]
    have hp : pend s = 6 - s.left := by unfold pend; rw [if_neg (by omega), if_pos m]
    obtain ⟨i1, i2, -⟩ := h3 m
    unfold digitsStep
    by_cases q0 : digZ c < 0
    · rw [if_pos q0]; intro k; cases k
    rw [if_neg q0, hp]
    have hP : ∀ (st : St), st.mode = 3 → pend st = 6 - st.left := fun st h => by unfold pend; rw [if_neg (by omega), if_pos h]
    by_cases q4 : s.left = 4
    · rw [if_pos q4]; intro _; have e := hP { s with number := 16 * s.number + digZ c, left := 3 } m; show (s.text.length : Int) + pend { s with number := 16 * s.number + digZ c, left := 3 } ≤ _; rw [e]; show (s.text.length : Int) + (6 - 3) ≤ _; omega
    rw [if_neg q4]
    by_cases q3 : s.left = 3
    · rw [if_pos q3]; intro _; have e := hP { s with number := 16 * s.number + digZ c, left := 2 } m; show (s.text.length : Int) + pend { s with number := 16 * s.number + digZ c, left := 2 } ≤ _; rw [e]; show (s.text.length : Int) + (6 - 2) ≤ _; omega
    rw [if_neg q3]
    by_cases q2 : s.left = 2
    · rw [if_pos q2]; intro _; have e := hP { s with number := 16 * s.number + digZ c, left := 1 } m; show (s.text.length : Int) + pend { s with number := 16 * s.number + digZ c, left := 1 } ≤ _; rw [e]; show (s.text.length : Int) + (6 - 1) ≤ _; omega
    rw [if_neg q2]
    by_cases qh : 0 < s.high
    · rw [if_pos qh]; intro _
      have hl := encN_len' (65536 + (s.high - 55296) * 1024 + (16 * s.number + digZ c) - 56320).toNat
      rw [pend_0 (.inr (.inl rfl))]
      generalize (65536 + (s.high - 55296) * 1024 + (16 * s.number + digZ c) - 56320).toNat = z at *
      show ((s.text ++ encN z).length : Int) + 0 ≤ _
      rw [List.length_append]; omega
    rw [if_neg qh]
    by_cases qv : 55296 ≤ 16 * s.number + digZ c ∧ 16 * s.number + digZ c ≤ 56319
    · rw [if_pos qv]; intro _; show (s.text.length : Int) + 6 ≤ _; omega
    · rw [if_neg qv]; intro _
      have hl := encN_len' (16 * s.number + digZ c).toNat
      rw [pend_0 (.inr (.inl rfl))]
      generalize (16 * s.number + digZ c).toNat = z at *
      show ((s.text ++ encN z).length : Int) + 0 ≤ _
      rw [List.length_append]; omega
  · rw [if_neg (by omega), if_neg (by omega), if_neg (by omega), if_neg (by omega), if_pos m]
    have hp : pend s = 6 := by unfold pend; rw [if_neg (by omega), if_neg (by omega), if_pos m]
    rw [hp]; intro _; show (s.text.length : Int) + 7 ≤ _; omega
  · rw [if_neg (by omega), if_neg (by omega), if_neg (by omega), if_neg (by omega), if_neg (by omega), if_pos m]
    have hp : pend s = 7 := by unfold pend; rw [if_neg (by omega), if_neg (by omega), if_neg (by omega), if_pos m]
    rw [hp]; intro _; show (s.text.length : Int) + (6 - 4) ≤ _; omega
  · rw [if_neg (by omega), if_neg (by omega), if_neg (by omega), if_neg (by omega), if_neg (by omega), if_neg (by omega), if_pos m, pend_0 (s := s) (by omega)]
    unfold bytesStep
    by_cases q : c < s.low ∨ s.most < c
    · rw [if_pos q]; intro k; cases k
    rw [if_neg q]; intro _
    rw [pend_0 (by
      by_cases hl : s.left - 1 = 0
      · exact .inr (.inl (if_pos hl))
      · exact .inr (.inr (.inl ((if_neg hl).trans m))))]
    show ((s.text ++ [c]).length : Int) + 0 ≤ _; rw [List.length_append]; show (((s.text.length + 1 : Nat)) : Int) + 0 ≤ _; omega
  · rw [if_neg (by omega), if_neg (by omega), if_neg (by omega), if_neg (by omega), if_neg (by omega), if_neg (by omega), if_neg (by omega)]; intro k; cases k
theorem pend_ge (s : St) (hi : InS s) : 0 ≤ pend s := by
  obtain ⟨hm, hh, h3, h6⟩ := hi
  unfold pend
  by_cases q2 : s.mode = 2
  · rw [if_pos q2]; decide
  rw [if_neg q2]
  by_cases q3 : s.mode = 3
  · rw [if_pos q3]; have := (h3 q3).2.1; omega
  rw [if_neg q3]
  split
  · decide
  split <;> decide

/-- a row of bytes, as a string, empty or not -/
theorem row_string_any {w : World} {base n : Nat} {e : TypeId} {A : Option Addr} {c : Nat} {xs : List Nat} (hx : ∀ x ∈ xs, x < 256) (hn : xs.length = n) (h : w.ownsRow base e 1 (.slice A n c) n (vals .u8 xs)) :
    (convert 49 9 (.slice A n c)).run Tryd.prog w = .ok (.string (strOf xs)) w := by
  by_cases h0 : 0 < n
  · exact row_string hx hn h h0
  obtain rfl : n = 0 := by omega
  obtain rfl : xs = [] := List.length_eq_zero_iff.1 hn
  rcases h.2 with ⟨h1, h2⟩ | ⟨g, cap, cur, he, h1, h2, h3, _, h5, h6⟩
  · cases h1
    kernel_rfl
  · obtain ⟨rfl, -, rfl⟩ := Value.slice.inj he
    exact run_convert_bytes_back (P := Tryd.prog) w 49 9 5 ⟨g, 0, none⟩ c [] Tryd.underlying49 Tryd.underlying5 Tryd.underlying9 (by intro j hj; simp at hj)

theorem results_ttc {P : Program} {fn : Func} {t u p : Tmp} {ty : TypeId} (h : fn.results = #[.tmp t, .tmp u, .cell p ty]) (tmps : Array Value) (w : World) (g : Nat) (t' : TypeId) (cs : Array Value) (fr : Nat × Nat) (d : TypeDesc)
    (hp : tmps.getD p undef = .pointer (some ⟨g, 0, none⟩)) (hg : w.heap[g]? = some (.cells cs t' fr))
    (hu : P.underlying ty = some d) (hd : (match d with | .struct _ | .array _ _ => true | _ => false) = true) (hi : (P.info? ty).map (·.size) = some cs.size) :
    (results fn tmps).run P w = .ok (.tuple #[tmps.getD t undef, tmps.getD u undef, .agg cs]) w := by
  have hp' : tmps[p]?.getD undef = .pointer (some ⟨g, 0, none⟩) := by simpa using hp
  simp [results, h, hp', asAddr, run_loadVar_row w g t' ty cs fr d hg hu hd hi]
theorem results_tc {P : Program} {fn : Func} {t p : Tmp} {ty : TypeId} (h : fn.results = #[.tmp t, .cell p ty]) (tmps : Array Value) (w : World) (g : Nat) (t' : TypeId) (cs : Array Value) (fr : Nat × Nat) (d : TypeDesc)
    (hp : tmps.getD p undef = .pointer (some ⟨g, 0, none⟩)) (hg : w.heap[g]? = some (.cells cs t' fr))
    (hu : P.underlying ty = some d) (hd : (match d with | .struct _ | .array _ _ => true | _ => false) = true) (hi : (P.info? ty).map (·.size) = some cs.size) :
    (results fn tmps).run P w = .ok (.tuple #[tmps.getD t undef, .agg cs]) w := by
  have hp' : tmps[p]?.getD undef = .pointer (some ⟨g, 0, none⟩) := by simpa using hp
  simp [results, h, hp', asAddr, run_loadVar_row w g t' ty cs fr d hg hu hd hi]
/-- what a result cell of three fields becomes by a store of a whole -/
theorem fault_set {w : World} {g : Nat} {cs : Array Value} (h : Blk w g 30 cs) (hcs : cs.size = 3) (x y z : Value) :
    Blk (((w.setCell ⟨g, 0, none⟩ x).setCell ⟨g, 1, none⟩ y).setCell ⟨g, 2, none⟩ z) g 30 #[x, y, z] := by
  have := ((h.set_ 0 x).set_ 1 y).set_ 2 z
  obtain ⟨l⟩ := cs
  match l, hcs with
  | [a, b, c], _ => exact this
theorem fault_below {a w : World} {g : Nat} (h : Below g a w) (x y z : Value) : Below g a (((w.setCell ⟨g, 0, none⟩ x).setCell ⟨g, 1, none⟩ y).setCell ⟨g, 2, none⟩ z) :=
  ((h.setCell (p := ⟨g, 0, none⟩) (Nat.le_refl _) _).setCell (p := ⟨g, 1, none⟩) (Nat.le_refl _) _).setCell (p := ⟨g, 2, none⟩) (Nat.le_refl _) _
end Go.Proofs.YtiignmjglihbnaaDoor
