/- Ahead of escape.stroke: the table as a value, strings put behind a row, the numbers of a code unit. -/
import Derived.Test.YtiignmjglihbnaaDoorText
import Derived.Test.YtiignmjglihbnaaDoorUnit
import Derived.Test.YtiignmjglihbnaaDoorQuote
import Derived.Test.YtiignmjglihbnaaDoorStroke2
import Derived.Lib.AppendStr
namespace Go.Proofs.YtiignmjglihbnaaDoor
open Go.RowKit Go.Lib
set_option linter.unusedVariables false

theorem str_cells (ys : List Nat) (h : ByteL ys) : strCells (strOf ys) = vals .u8 ys := by
  unfold strCells strOf vals
  rw [List.toList_toArray, List.map_map]
  apply List.map_congr_left
  intro y hy
  have := h y hy
  show Value.int .u8 ((UInt8.ofNat y).toNat : Int) = _
  rw [u8n y this]
theorem bt_extract (s : ByteArray) (i : Nat) (h : i ≤ s.size) : bt (s.extract i s.size) = fun j => bt s (i + j) := by
  funext j
  have hs : (s.extract i s.size).size = s.size - i := by simp
  unfold bt
  by_cases h1 : i + j < s.size
  · rw [dif_pos (by rw [hs]; omega), dif_pos h1, ByteArray.getElem_extract]
  · rw [dif_neg (by rw [hs]; omega), dif_neg h1]

theorem tab_0 (w : World) : (Instr.index 53 (.agg #[.int .u8 34, .int .u8 34, .int .u8 92, .int .u8 92, .int .u8 98, .int .u8 8, .int .u8 116, .int .u8 9, .int .u8 110, .int .u8 10, .int .u8 102, .int .u8 12, .int .u8 114, .int .u8 13, .int .u8 47, .int .u8 47]) (.int .i64 0)).run Tryd.prog w = .ok (.agg #[.int .u8 34, .int .u8 34]) w := by kernel_rfl
theorem tab_1 (w : World) : (Instr.index 53 (.agg #[.int .u8 34, .int .u8 34, .int .u8 92, .int .u8 92, .int .u8 98, .int .u8 8, .int .u8 116, .int .u8 9, .int .u8 110, .int .u8 10, .int .u8 102, .int .u8 12, .int .u8 114, .int .u8 13, .int .u8 47, .int .u8 47]) (.int .i64 1)).run Tryd.prog w = .ok (.agg #[.int .u8 92, .int .u8 92]) w := by kernel_rfl
theorem tab_2 (w : World) : (Instr.index 53 (.agg #[.int .u8 34, .int .u8 34, .int .u8 92, .int .u8 92, .int .u8 98, .int .u8 8, .int .u8 116, .int .u8 9, .int .u8 110, .int .u8 10, .int .u8 102, .int .u8 12, .int .u8 114, .int .u8 13, .int .u8 47, .int .u8 47]) (.int .i64 2)).run Tryd.prog w = .ok (.agg #[.int .u8 98, .int .u8 8]) w := by kernel_rfl
theorem tab_3 (w : World) : (Instr.index 53 (.agg #[.int .u8 34, .int .u8 34, .int .u8 92, .int .u8 92, .int .u8 98, .int .u8 8, .int .u8 116, .int .u8 9, .int .u8 110, .int .u8 10, .int .u8 102, .int .u8 12, .int .u8 114, .int .u8 13, .int .u8 47, .int .u8 47]) (.int .i64 3)).run Tryd.prog w = .ok (.agg #[.int .u8 116, .int .u8 9]) w := by kernel_rfl
theorem tab_4 (w : World) : (Instr.index 53 (.agg #[.int .u8 34, .int .u8 34, .int .u8 92, .int .u8 92, .int .u8 98, .int .u8 8, .int .u8 116, .int .u8 9, .int .u8 110, .int .u8 10, .int .u8 102, .int .u8 12, .int .u8 114, .int .u8 13, .int .u8 47, .int .u8 47]) (.int .i64 4)).run Tryd.prog w = .ok (.agg #[.int .u8 110, .int .u8 10]) w := by kernel_rfl
theorem tab_5 (w : World) : (Instr.index 53 (.agg #[.int .u8 34, .int .u8 34, .int .u8 92, .int .u8 92, .int .u8 98, .int .u8 8, .int .u8 116, .int .u8 9, .int .u8 110, .int .u8 10, .int .u8 102, .int .u8 12, .int .u8 114, .int .u8 13, .int .u8 47, .int .u8 47]) (.int .i64 5)).run Tryd.prog w = .ok (.agg #[.int .u8 102, .int .u8 12]) w := by kernel_rfl
theorem tab_6 (w : World) : (Instr.index 53 (.agg #[.int .u8 34, .int .u8 34, .int .u8 92, .int .u8 92, .int .u8 98, .int .u8 8, .int .u8 116, .int .u8 9, .int .u8 110, .int .u8 10, .int .u8 102, .int .u8 12, .int .u8 114, .int .u8 13, .int .u8 47, .int .u8 47]) (.int .i64 6)).run Tryd.prog w = .ok (.agg #[.int .u8 114, .int .u8 13]) w := by kernel_rfl
theorem tab_7 (w : World) : (Instr.index 53 (.agg #[.int .u8 34, .int .u8 34, .int .u8 92, .int .u8 92, .int .u8 98, .int .u8 8, .int .u8 116, .int .u8 9, .int .u8 110, .int .u8 10, .int .u8 102, .int .u8 12, .int .u8 114, .int .u8 13, .int .u8 47, .int .u8 47]) (.int .i64 7)).run Tryd.prog w = .ok (.agg #[.int .u8 47, .int .u8 47]) w := by kernel_rfl
theorem tab_at (j : Nat) (h : j < 8) (w : World) : (Instr.index 53 (.agg #[.int .u8 34, .int .u8 34, .int .u8 92, .int .u8 92, .int .u8 98, .int .u8 8, .int .u8 116, .int .u8 9, .int .u8 110, .int .u8 10, .int .u8 102, .int .u8 12, .int .u8 114, .int .u8 13, .int .u8 47, .int .u8 47]) (.int .i64 (j : Nat))).run Tryd.prog w = .ok (.agg #[.int .u8 (shL j), .int .u8 (shM j)]) w := by
  have : j = 0 ∨ j = 1 ∨ j = 2 ∨ j = 3 ∨ j = 4 ∨ j = 5 ∨ j = 6 ∨ j = 7 := by omega
  rcases this with rfl | rfl | rfl | rfl | rfl | rfl | rfl | rfl
  · exact tab_0 w
  · exact tab_1 w
  · exact tab_2 w
  · exact tab_3 w
  · exact tab_4 w
  · exact tab_5 w
  · exact tab_6 w
  · exact tab_7 w
theorem short_let : ∀ j, j < 8 → letM (shL j) = some (shM j) := by decide
theorem short_none (c : Nat) (h : ∀ j, j < 8 → shL j ≠ c) : letM c = none := by
  have h0 := h 0 (by decide)
  have h1 := h 1 (by decide)
  have h2 := h 2 (by decide)
  have h3 := h 3 (by decide)
  have h4 := h 4 (by decide)
  have h5 := h 5 (by decide)
  have h6 := h 6 (by decide)
  have h7 := h 7 (by decide)
  simp only [shL, List.getD_cons_zero, List.getD_cons_succ] at h0 h1 h2 h3 h4 h5 h6 h7
  unfold letM
  rw [if_neg (by omega), if_neg (by omega), if_neg (by omega), if_neg (by omega), if_neg (by omega), if_neg (by omega), if_neg (by omega), if_neg (by omega)]

/-- what a number of a code unit is, of which no low surrogate was due -/
theorem unit_free (b : Nat → Nat) (x n : Nat) (h : unitN b false 4 0 0 = (x, n, true)) : x < 65536 ∧ ¬ (56320 ≤ x ∧ x ≤ 57343) ∧ n = 4 := by
  unfold unitN at h
  split at h
  · cases h
  rename_i d0
  split at h
  · cases h
  unfold unitN at h
  split at h
  · cases h
  rename_i d1
  split at h
  · cases h
  rename_i o1
  unfold unitN at h
  split at h
  · cases h
  rename_i d2
  split at h
  · cases h
  unfold unitN at h
  split at h
  · cases h
  rename_i d3
  split at h
  · cases h
  unfold unitN at h
  have r0 := (digZ_range (b 0)).2
  have r1 := (digZ_range (b 1)).2
  have r2 := (digZ_range (b 2)).2
  have r3 := (digZ_range (b 3)).2
  have k0 : digN (b 0) < 16 := by unfold digN; omega
  have k1 : digN (b 1) < 16 := by unfold digN; omega
  have k2 : digN (b 2) < 16 := by unfold digN; omega
  have k3 : digN (b 3) < 16 := by unfold digN; omega
  have o1' : ¬ (220 ≤ 16 * (16 * 0 + digN (b 0)) + digN (b 1) ∧ 16 * (16 * 0 + digN (b 0)) + digN (b 1) ≤ 223) := by
    intro k
    exact o1 (decide_eq_true (.inr ⟨rfl, ⟨fun q => (by cases q), fun q => absurd k q⟩⟩))
  simp only [Nat.zero_add, Nat.reduceAdd] at *
  generalize digN (b 0) = a0 at *
  generalize digN (b 1) = a1 at *
  generalize digN (b 2) = a2 at *
  generalize digN (b 3) = a3 at *
  obtain ⟨rfl, rfl⟩ : 16 * (16 * (16 * (16 * 0 + a0) + a1) + a2) + a3 = x ∧ 4 = n := by
    have := h
    simp only [Prod.mk.injEq] at this
    exact ⟨this.1, this.2.1⟩
  clear h
  omega
theorem unit_n (b : Nat → Nat) (low : Bool) (x n : Nat) (ok : Bool) (h : unitN b low 4 0 0 = (x, n, ok)) : n ≤ 4 := by
  have : ∀ f i y, i + f = 4 → (unitN b low f i y).2.1 ≤ 4 := by
    intro f
    induction f with
    | zero => intro i y hi; unfold unitN; show i ≤ 4; omega
    | succ f ih =>
      intro i y hi
      unfold unitN
      split
      · show i ≤ 4; omega
      split
      · show i ≤ 4; omega
      exact ih (i + 1) _ (by omega)
  have h4 := this 4 0 0 rfl
  rw [h] at h4
  exact h4
/-- .. of which one was due -/
theorem unit_low (b : Nat → Nat) (x n : Nat) (h : unitN b true 4 0 0 = (x, n, true)) : 56320 ≤ x ∧ x ≤ 57343 ∧ n = 4 := by
  unfold unitN at h
  split at h
  · cases h
  rename_i d0
  split at h
  · cases h
  rename_i o0
  unfold unitN at h
  split at h
  · cases h
  rename_i d1
  split at h
  · cases h
  rename_i o1
  unfold unitN at h
  split at h
  · cases h
  rename_i d2
  split at h
  · cases h
  unfold unitN at h
  split at h
  · cases h
  rename_i d3
  split at h
  · cases h
  unfold unitN at h
  have r0 := (digZ_range (b 0)).2
  have r1 := (digZ_range (b 1)).2
  have r2 := (digZ_range (b 2)).2
  have r3 := (digZ_range (b 3)).2
  have k0 : digN (b 0) < 16 := by unfold digN; omega
  have k1 : digN (b 1) < 16 := by unfold digN; omega
  have k2 : digN (b 2) < 16 := by unfold digN; omega
  have k3 : digN (b 3) < 16 := by unfold digN; omega
  have o1' : 220 ≤ 16 * (16 * 0 + digN (b 0)) + digN (b 1) ∧ 16 * (16 * 0 + digN (b 0)) + digN (b 1) ≤ 223 := by
    by_cases k : 220 ≤ 16 * (16 * 0 + digN (b 0)) + digN (b 1) ∧ 16 * (16 * 0 + digN (b 0)) + digN (b 1) ≤ 223
    · exact k
    · exact absurd (decide_eq_true (.inr ⟨rfl, ⟨fun _ => k, fun _ => rfl⟩⟩)) o1
  simp only [Nat.zero_add, Nat.reduceAdd] at *
  generalize digN (b 0) = a0 at *
  generalize digN (b 1) = a1 at *
  generalize digN (b 2) = a2 at *
  generalize digN (b 3) = a3 at *
  obtain ⟨rfl, rfl⟩ : 16 * (16 * (16 * (16 * 0 + a0) + a1) + a2) + a3 = x ∧ 4 = n := by
    have := h
    simp only [Prod.mk.injEq] at this
    exact ⟨this.1, this.2.1⟩
  clear h
  omega
end Go.Proofs.YtiignmjglihbnaaDoor
