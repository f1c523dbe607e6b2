/- Chapter 10 of the program: stroke (for seat json). -/
import Derived.Test.YtjfeebbhkolmoaaDoorJeT
import Derived.Test.YtjfeebbhkolmoaaDoorJeW
import Derived.Test.YtjfeebbhkolmoaaDoorJeQ
import Derived.Lib.AppendStr
import Derived.Deep.RegionLaw
namespace Go.Proofs.YtjfeebbhkolmoaaDoor.E
open Go.RowKit
set_option linter.unusedVariables false

section
open Go.RowKit Go.Lib
theorem str_cells (ys : List Nat) (h : ByteL ys) : strCells (strOf ys) = vals .u8 ys := by
  unfold strCells strOf vals
  rw [List.toList_toArray, List.map_map]
  apply List.map_congr_left
  intro y hy
  have := h y hy
  show Value.int .u8 ((UInt8.ofNat y).toNat : Int) = _
  rw [u8n y this]
theorem bt_extract (s : ByteArray) (i : Nat) (h : i ≤ s.size) : bt (s.extract i s.size) = fun j => bt s (i + j) := by
  funext j
  have hs : (s.extract i s.size).size = s.size - i := by simp
  unfold bt
  by_cases h1 : i + j < s.size
  · rw [dif_pos (by rw [hs]; omega), dif_pos h1, ByteArray.getElem_extract]
  · rw [dif_neg (by rw [hs]; omega), dif_neg h1]
theorem tab_0 (w : World) : (Instr.index 85 (.agg #[.int .u8 34, .int .u8 34, .int .u8 92, .int .u8 92, .int .u8 98, .int .u8 8, .int .u8 116, .int .u8 9, .int .u8 110, .int .u8 10, .int .u8 102, .int .u8 12, .int .u8 114, .int .u8 13, .int .u8 47, .int .u8 47]) (.int .i64 0)).run Tryd.prog w = .ok (.agg #[.int .u8 34, .int .u8 34]) w := by kernel_rfl
theorem tab_1 (w : World) : (Instr.index 85 (.agg #[.int .u8 34, .int .u8 34, .int .u8 92, .int .u8 92, .int .u8 98, .int .u8 8, .int .u8 116, .int .u8 9, .int .u8 110, .int .u8 10, .int .u8 102, .int .u8 12, .int .u8 114, .int .u8 13, .int .u8 47, .int .u8 47]) (.int .i64 1)).run Tryd.prog w = .ok (.agg #[.int .u8 92, .int .u8 92]) w := by kernel_rfl
theorem tab_2 (w : World) : (Instr.index 85 (.agg #[.int .u8 34, .int .u8 34, .int .u8 92, .int .u8 92, .int .u8 98, .int .u8 8, .int .u8 116, .int .u8 9, .int .u8 110, .int .u8 10, .int .u8 102, .int .u8 12, .int .u8 114, .int .u8 13, .int .u8 47, .int .u8 47]) (.int .i64 2)).run Tryd.prog w = .ok (.agg #[.int .u8 98, .int .u8 8]) w := by kernel_rfl
theorem tab_3 (w : World) : (Instr.index 85 (.agg #[.int .u8 34, .int .u8 34, .int .u8 92, .int .u8 92, .int .u8 98, .int .u8 8, .int .u8 116, .int .u8 9, .int .u8 110, .int .u8 10, .int .u8 102, .int .u8 12, .int .u8 114, .int .u8 13, .int .u8 47, .int .u8 47]) (.int .i64 3)).run Tryd.prog w = .ok (.agg #[.int .u8 116, .int .u8 9]) w := by kernel_rfl
theorem tab_4 (w : World) : (Instr.index 85 (.agg #[.int .u8 34, .int .u8 34, .int .u8 92, .int .u8 92, .int .u8 98, .int .u8 8, .int .u8 116, .int .u8 9, .int .u8 110, .int .u8 10, .int .u8 102, .int .u8 12, .int .u8 114, .int .u8 13, .int .u8 47, .int .u8 47]) (.int .i64 4)).run Tryd.prog w = .ok (.agg #[.int .u8 110, .int .u8 10]) w := by kernel_rfl
theorem tab_5 (w : World) : (Instr.index 85 (.agg #[.int .u8 34, .int .u8 34, .int .u8 92, .int .u8 92, .int .u8 98, .int .u8 8, .int .u8 116, .int .u8 9, .int .u8 110, .int .u8 10, .int .u8 102, .int .u8 12, .int .u8 114, .int .u8 13, .int .u8 47, .int .u8 47]) (.int .i64 5)).run Tryd.prog w = .ok (.agg #[.int .u8 102, .int .u8 12]) w := by kernel_rfl
theorem tab_6 (w : World) : (Instr.index 85 (.agg #[.int .u8 34, .int .u8 34, .int .u8 92, .int .u8 92, .int .u8 98, .int .u8 8, .int .u8 116, .int .u8 9, .int .u8 110, .int .u8 10, .int .u8 102, .int .u8 12, .int .u8 114, .int .u8 13, .int .u8 47, .int .u8 47]) (.int .i64 6)).run Tryd.prog w = .ok (.agg #[.int .u8 114, .int .u8 13]) w := by kernel_rfl
theorem tab_7 (w : World) : (Instr.index 85 (.agg #[.int .u8 34, .int .u8 34, .int .u8 92, .int .u8 92, .int .u8 98, .int .u8 8, .int .u8 116, .int .u8 9, .int .u8 110, .int .u8 10, .int .u8 102, .int .u8 12, .int .u8 114, .int .u8 13, .int .u8 47, .int .u8 47]) (.int .i64 7)).run Tryd.prog w = .ok (.agg #[.int .u8 47, .int .u8 47]) w := by kernel_rfl
theorem tab_at (j : Nat) (h : j < 8) (w : World) : (Instr.index 85 (.agg #[.int .u8 34, .int .u8 34, .int .u8 92, .int .u8 92, .int .u8 98, .int .u8 8, .int .u8 116, .int .u8 9, .int .u8 110, .int .u8 10, .int .u8 102, .int .u8 12, .int .u8 114, .int .u8 13, .int .u8 47, .int .u8 47]) (.int .i64 (j : Nat))).run Tryd.prog w = .ok (.agg #[.int .u8 (shL j), .int .u8 (shM j)]) w := by
  have : j = 0 ∨ j = 1 ∨ j = 2 ∨ j = 3 ∨ j = 4 ∨ j = 5 ∨ j = 6 ∨ j = 7 := by omega
  rcases this with rfl | rfl | rfl | rfl | rfl | rfl | rfl | rfl
  · exact tab_0 w
  · exact tab_1 w
  · exact tab_2 w
  · exact tab_3 w
  · exact tab_4 w
  · exact tab_5 w
  · exact tab_6 w
  · exact tab_7 w
theorem short_let : ∀ j, j < 8 → letM (shL j) = some (shM j) := by decide
theorem short_none (c : Nat) (h : ∀ j, j < 8 → shL j ≠ c) : letM c = none := by
  have h0 := h 0 (by decide)
  have h1 := h 1 (by decide)
  have h2 := h 2 (by decide)
  have h3 := h 3 (by decide)
  have h4 := h 4 (by decide)
  have h5 := h 5 (by decide)
  have h6 := h 6 (by decide)
  have h7 := h 7 (by decide)
  simp only [shL, List.getD_cons_zero, List.getD_cons_succ] at h0 h1 h2 h3 h4 h5 h6 h7
  unfold letM
  rw [if_neg (by omega), if_neg (by omega), if_neg (by omega), if_neg (by omega), if_neg (by omega), if_neg (by omega), if_neg (by omega), if_neg (by omega)]
/-- what a number of a code unit is, of which no low surrogate was due -/
theorem unit_free (b : Nat → Nat) (x n : Nat) (h : unitN b false 4 0 0 = (x, n, true)) : x < 65536 ∧ ¬ (56320 ≤ x ∧ x ≤ 57343) ∧ n = 4 := by
  unfold unitN at h
  split at h
  · cases h
  rename_i d0
  split at h
  · cases h
  unfold unitN at h
  split at h
  · cases h
  rename_i d1
  split at h
  · cases h
  rename_i o1
  unfold unitN at h
  split at h
  · cases h
  rename_i d2
  split at h
  · cases h
  unfold unitN at h
  split at h
  · cases h
  rename_i d3
  split at h
  · cases h
  unfold unitN at h
  have r0 := (digZ_range (b 0)).2
  have r1 := (digZ_range (b 1)).2
  have r2 := (digZ_range (b 2)).2
  have r3 := (digZ_range (b 3)).2
  have k0 : digN (b 0) < 16 := by unfold digN; omega
  have k1 : digN (b 1) < 16 := by unfold digN; omega
  have k2 : digN (b 2) < 16 := by unfold digN; omega
  have k3 : digN (b 3) < 16 := by unfold digN; omega
  have o1' : ¬ (220 ≤ 16 * (16 * 0 + digN (b 0)) + digN (b 1) ∧ 16 * (16 * 0 + digN (b 0)) + digN (b 1) ≤ 223) := by
    intro k
    exact o1 (decide_eq_true (.inr ⟨rfl, ⟨fun q => (by cases q), fun q => absurd k q⟩⟩))
  simp only [Nat.zero_add, Nat.reduceAdd] at *
  generalize digN (b 0) = a0 at *
  generalize digN (b 1) = a1 at *
  generalize digN (b 2) = a2 at *
  generalize digN (b 3) = a3 at *
  obtain ⟨rfl, rfl⟩ : 16 * (16 * (16 * (16 * 0 + a0) + a1) + a2) + a3 = x ∧ 4 = n := by
    have := h
    simp only [Prod.mk.injEq] at this
    exact ⟨this.1, this.2.1⟩
  clear h
  omega
theorem unit_n (b : Nat → Nat) (low : Bool) (x n : Nat) (ok : Bool) (h : unitN b low 4 0 0 = (x, n, ok)) : n ≤ 4 := by
  have : ∀ f i y, i + f = 4 → (unitN b low f i y).2.1 ≤ 4 := by
    intro f
    induction f with
    | zero => intro i y hi; unfold unitN; show i ≤ 4; omega
    | succ f ih =>
      intro i y hi
      unfold unitN
      split
      · show i ≤ 4; omega
      split
      · show i ≤ 4; omega
      exact ih (i + 1) _ (by omega)
  have h4 := this 4 0 0 rfl
  rw [h] at h4
  exact h4
/-- .. of which one was due -/
theorem unit_low (b : Nat → Nat) (x n : Nat) (h : unitN b true 4 0 0 = (x, n, true)) : 56320 ≤ x ∧ x ≤ 57343 ∧ n = 4 := by
  unfold unitN at h
  split at h
  · cases h
  rename_i d0
  split at h
  · cases h
  rename_i o0
  unfold unitN at h
  split at h
  · cases h
  rename_i d1
  split at h
  · cases h
  rename_i o1
  unfold unitN at h
  split at h
  · cases h
  rename_i d2
  split at h
  · cases h
  unfold unitN at h
  split at h
  · cases h
  rename_i d3
  split at h
  · cases h
  unfold unitN at h
  have r0 := (digZ_range (b 0)).2
  have r1 := (digZ_range (b 1)).2
  have r2 := (digZ_range (b 2)).2
  have r3 := (digZ_range (b 3)).2
  have k0 : digN (b 0) < 16 := by unfold digN; omega
  have k1 : digN (b 1) < 16 := by unfold digN; omega
  have k2 : digN (b 2) < 16 := by unfold digN; omega
  have k3 : digN (b 3) < 16 := by unfold digN; omega
  have o1' : 220 ≤ 16 * (16 * 0 + digN (b 0)) + digN (b 1) ∧ 16 * (16 * 0 + digN (b 0)) + digN (b 1) ≤ 223 := by
    by_cases k : 220 ≤ 16 * (16 * 0 + digN (b 0)) + digN (b 1) ∧ 16 * (16 * 0 + digN (b 0)) + digN (b 1) ≤ 223
    · exact k
    · exact absurd (decide_eq_true (.inr ⟨rfl, ⟨fun _ => k, fun _ => rfl⟩⟩)) o1
  simp only [Nat.zero_add, Nat.reduceAdd] at *
  generalize digN (b 0) = a0 at *
  generalize digN (b 1) = a1 at *
  generalize digN (b 2) = a2 at *
  generalize digN (b 3) = a3 at *
  obtain ⟨rfl, rfl⟩ : 16 * (16 * (16 * (16 * 0 + a0) + a1) + a2) + a3 = x ∧ 4 = n := by
    have := h
    simp only [Prod.mk.injEq] at this
    exact ⟨this.1, this.2.1⟩
  clear h
  omega
end
section
open Go.RowKit Go.Lib
def strokeN (b : Nat → Nat) : List Nat × Nat × Bool :=
  match letM (b 1) with
  | some m => ([m], 2, true)
  | none =>
    if b 1 ≠ 117 then ([], 1, false)
    else if (unitN (fun j => b (2 + j)) false 4 0 0).2.2 = false then ([], 2 + (unitN (fun j => b (2 + j)) false 4 0 0).2.1, false)
    else if (unitN (fun j => b (2 + j)) false 4 0 0).1 / 1024 ≠ 54 then (encN (unitN (fun j => b (2 + j)) false 4 0 0).1, 6, true)
    else if b 6 ≠ 92 then ([], 6, false)
    else if b 7 ≠ 117 then ([], 7, false)
    else if (unitN (fun j => b (8 + j)) true 4 0 0).2.2 = false then ([], 8 + (unitN (fun j => b (8 + j)) true 4 0 0).2.1, false)
    else (encN (65536 + ((unitN (fun j => b (2 + j)) false 4 0 0).1 - 55296) * 1024 + (unitN (fun j => b (8 + j)) true 4 0 0).1 - 56320), 12, true)
theorem sN_1 (b : Nat → Nat) (x n : Nat) (h1 : b 1 = 117) (h : unitN (fun j => b (2 + j)) false 4 0 0 = (x, n, false)) : strokeN b = ([], 2 + n, false) := by
  unfold strokeN
  rw [h1, show letM 117 = none from rfl]
  simp only []
  rw [if_neg (show ¬ (117 ≠ 117) from fun k => k rfl), h]
  exact if_pos rfl
theorem sN_2 (b : Nat → Nat) (x n : Nat) (h1 : b 1 = 117) (h : unitN (fun j => b (2 + j)) false 4 0 0 = (x, n, true)) (hx : x / 1024 ≠ 54) : strokeN b = (encN x, 6, true) := by
  unfold strokeN
  rw [h1, show letM 117 = none from rfl]
  simp only []
  rw [if_neg (show ¬ (117 ≠ 117) from fun k => k rfl), h]
  rw [if_neg (show ¬ ((x, n, true).2.2 = false) from fun k => by cases k)]
  exact if_pos hx
theorem sN_3 (b : Nat → Nat) (x n : Nat) (h1 : b 1 = 117) (h : unitN (fun j => b (2 + j)) false 4 0 0 = (x, n, true)) (hx : x / 1024 = 54) (h6 : b 6 ≠ 92) : strokeN b = ([], 6, false) := by
  unfold strokeN
  rw [h1, show letM 117 = none from rfl]
  simp only []
  rw [if_neg (show ¬ (117 ≠ 117) from fun k => k rfl), h]
  rw [if_neg (show ¬ ((x, n, true).2.2 = false) from fun k => by cases k)]
  rw [if_neg (show ¬ ((x, n, true).1 / 1024 ≠ 54) from fun k => k hx)]
  exact if_pos h6
theorem sN_4 (b : Nat → Nat) (x n : Nat) (h1 : b 1 = 117) (h : unitN (fun j => b (2 + j)) false 4 0 0 = (x, n, true)) (hx : x / 1024 = 54) (h6 : b 6 = 92) (h7 : b 7 ≠ 117) : strokeN b = ([], 7, false) := by
  unfold strokeN
  rw [h1, show letM 117 = none from rfl]
  simp only []
  rw [if_neg (show ¬ (117 ≠ 117) from fun k => k rfl), h]
  rw [if_neg (show ¬ ((x, n, true).2.2 = false) from fun k => by cases k)]
  rw [if_neg (show ¬ ((x, n, true).1 / 1024 ≠ 54) from fun k => k hx)]
  rw [if_neg (show ¬ (b 6 ≠ 92) from fun k => k h6)]
  exact if_pos h7
theorem sN_5 (b : Nat → Nat) (x n : Nat) (h1 : b 1 = 117) (h : unitN (fun j => b (2 + j)) false 4 0 0 = (x, n, true)) (hx : x / 1024 = 54) (h6 : b 6 = 92) (h7 : b 7 = 117) (y m : Nat) (h2 : unitN (fun j => b (8 + j)) true 4 0 0 = (y, m, false)) : strokeN b = ([], 8 + m, false) := by
  unfold strokeN
  rw [h1, show letM 117 = none from rfl]
  simp only []
  rw [if_neg (show ¬ (117 ≠ 117) from fun k => k rfl), h]
  rw [if_neg (show ¬ ((x, n, true).2.2 = false) from fun k => by cases k)]
  rw [if_neg (show ¬ ((x, n, true).1 / 1024 ≠ 54) from fun k => k hx)]
  rw [if_neg (show ¬ (b 6 ≠ 92) from fun k => k h6)]
  rw [if_neg (show ¬ (b 7 ≠ 117) from fun k => k h7), h2]
  exact if_pos rfl
theorem sN_6 (b : Nat → Nat) (x n : Nat) (h1 : b 1 = 117) (h : unitN (fun j => b (2 + j)) false 4 0 0 = (x, n, true)) (hx : x / 1024 = 54) (h6 : b 6 = 92) (h7 : b 7 = 117) (y m : Nat) (h2 : unitN (fun j => b (8 + j)) true 4 0 0 = (y, m, true)) : strokeN b = (encN (65536 + (x - 55296) * 1024 + y - 56320), 12, true) := by
  unfold strokeN
  rw [h1, show letM 117 = none from rfl]
  simp only []
  rw [if_neg (show ¬ (117 ≠ 117) from fun k => k rfl), h]
  rw [if_neg (show ¬ ((x, n, true).2.2 = false) from fun k => by cases k)]
  rw [if_neg (show ¬ ((x, n, true).1 / 1024 ≠ 54) from fun k => k hx)]
  rw [if_neg (show ¬ (b 6 ≠ 92) from fun k => k h6)]
  rw [if_neg (show ¬ (b 7 ≠ 117) from fun k => k h7), h2]
  rw [if_neg (show ¬ ((y, m, true).2.2 = false) from fun k => by cases k)]
def StrokePost (w : World) (base : Nat) (xs : List Nat) (r : List Nat × Nat × Bool) (e : Ending) (w' : World) : Prop :=
  ∃ v', e = .returned (.tuple #[v', .int .i64 r.2.1, .bool r.2.2]) ∧ w'.ownsRow base 5 1 v' (xs ++ r.1).length (vals .u8 (xs ++ r.1)) ∧ Below base w w' ∧ w.heap.size ≤ w'.heap.size
set_option maxRecDepth 100000 in
theorem pstroke_one (base : Nat) (v : Value) (xs : List Nat) (s : ByteArray) (hs : s.size = 1) (w : World) (ho : w.ownsRow base 5 1 v xs.length (vals .u8 xs)) :
    Calls Tryd.prog 40 #[v, .string s] w (StrokePost w base xs ([], 1, false)) := by
  have hs' : ((s.size : Int) == 1) = true := by rw [hs]; rfl
  have HO := Lib.hid ho
  clear ho hs
  go_enter Tryd.func40, Tryd.ntmps40
  go_wp2_with fail
  go_ret3
  exact ⟨v, rfl, by rw [List.append_nil]; exact HO.out, Below.refl _ _, Nat.le_refl _⟩
set_option maxRecDepth 100000 in
set_option maxHeartbeats 1500000 in
theorem pstroke_u (base : Nat) (v : Value) (xs : List Nat) (s : ByteArray) (hs : 1 < s.size) (c : Nat) (hc : s[1].toNat = c) (hu : c = 117) (w : World) (ho : w.ownsRow base 5 1 v xs.length (vals .u8 xs)) (hl : xs.length ≤ 140737488355000) (hb : base ≤ w.heap.size) (hsh : Shorts w) :
    Calls Tryd.prog 40 #[v, .string s] w (StrokePost w base xs (strokeN (bt s))) := by
  have HO := Lib.hid ho
  have HL := Lib.hid hl
  have HB := Lib.hid hb
  have SH := Lib.hid hsh
  have HM : Hid (letM c = none) := Lib.hid (by rw [hu]; rfl)
  have HU := Lib.hid hu
  have k0 : w.cell? ⟨1, 0, none⟩ = some (.int .u8 34) := (hsh.2 0 (by decide)).1
  have k1 : w.cell? ⟨1, 1, none⟩ = some (.int .u8 34) := (hsh.2 0 (by decide)).2
  have k2 : w.cell? ⟨1, 2, none⟩ = some (.int .u8 92) := (hsh.2 1 (by decide)).1
  have k3 : w.cell? ⟨1, 3, none⟩ = some (.int .u8 92) := (hsh.2 1 (by decide)).2
  have k4 : w.cell? ⟨1, 4, none⟩ = some (.int .u8 98) := (hsh.2 2 (by decide)).1
  have k5 : w.cell? ⟨1, 5, none⟩ = some (.int .u8 8) := (hsh.2 2 (by decide)).2
  have k6 : w.cell? ⟨1, 6, none⟩ = some (.int .u8 116) := (hsh.2 3 (by decide)).1
  have k7 : w.cell? ⟨1, 7, none⟩ = some (.int .u8 9) := (hsh.2 3 (by decide)).2
  have k8 : w.cell? ⟨1, 8, none⟩ = some (.int .u8 110) := (hsh.2 4 (by decide)).1
  have k9 : w.cell? ⟨1, 9, none⟩ = some (.int .u8 10) := (hsh.2 4 (by decide)).2
  have k10 : w.cell? ⟨1, 10, none⟩ = some (.int .u8 102) := (hsh.2 5 (by decide)).1
  have k11 : w.cell? ⟨1, 11, none⟩ = some (.int .u8 12) := (hsh.2 5 (by decide)).2
  have k12 : w.cell? ⟨1, 12, none⟩ = some (.int .u8 114) := (hsh.2 6 (by decide)).1
  have k13 : w.cell? ⟨1, 13, none⟩ = some (.int .u8 13) := (hsh.2 6 (by decide)).2
  have k14 : w.cell? ⟨1, 14, none⟩ = some (.int .u8 47) := (hsh.2 7 (by decide)).1
  have k15 : w.cell? ⟨1, 15, none⟩ = some (.int .u8 47) := (hsh.2 7 (by decide)).2
  have hs1 : ((s.size : Int) == 1) = false := by rw [beq_eq_false_iff_ne]; omega
  have hs2 : (1 : Int) < (s.size : Int) := by omega
  clear ho hl hb hsh hu
  obtain ⟨i0, hi, hz0, hz1, hz2⟩ := info_parts info_u8
  go_enter Tryd.func40, Tryd.ntmps40
  go_upto_region 4 with fail
  clear k0 k1 k2 k3 k4 k5 k6 k7 k8 k9 k10 k11 k12 k13 k14 k15
  go_loopw [4, 5, 6, 24] (fun _ _ _ v24 wr => ∃ j : Nat, v24 = .int .i64 j ∧ j ≤ 8 ∧ (∀ t, t < j → shL t ≠ c) ∧ Below w.heap.size w wr) (fun _ _ _ v24 _ => 8 - (intOf v24).toNat)
  case atStart => exact ⟨0, rfl, by omega, fun t ht => absurd ht (by omega), Below.refl _ _⟩
  case round =>
    obtain ⟨j, rfl, hj, hne, hbel⟩ := hrel
    have HNE := Lib.hid hne
    have HBE := Lib.hid hbel
    clear hne hbel
    by_cases h8 : j < 8
    · have ix := tab_at j h8
      have h8' : (j : Int) < 8 := by omega
      by_cases hq : shL j = c
      · have h := short_let j h8
        rw [hq, HM.out] at h
        cases h
      · have hq' : (((shL j : Nat) : Int) == (c : Int)) = false := by rw [beq_eq_false_iff_ne]; omega
        have HQ := Lib.hid hq
        obtain ⟨l, hlj⟩ : ∃ l, shL j = l := ⟨_, rfl⟩
        obtain ⟨m, hmj⟩ : ∃ m, shM j = m := ⟨_, rfl⟩
        rw [hlj] at ix hq'
        rw [hmj] at ix
        clear hq hlj hmj
        go_upto_region 6 with fail
        have HB1 := Lib.hid (HBE.out.alloc HBE.out.size (.cells #[.int .u8 l, .int .u8 m] 84))
        have HK := Lib.hid (Blk.new wr 84 #[.int .u8 l, .int .u8 m])
        generalize wr.alloc (.cells #[.int .u8 l, .int .u8 m] 84) = w1 at *
        generalize wr.heap.size = g at *
        have x0 := HK.out.cell 0
        have x1 := HK.out.cell 1
        go_region_law (fail)
        all_goals
          go_wp2_with fail
          go_roundw
          case rel => exact ⟨j + 1, by go_num, by omega, fun t ht => by
            by_cases q : t < j
            · exact HNE.out t q
            · obtain rfl : t = j := by omega
              exact HQ.out, below_drewN' HB1.out 1⟩
          case measure => simp [intOf]; omega
    · have h8' : ¬ ((j : Int) < 8) := by omega
      have h117' : ((c : Int) == 117) = true := by rw [beq_iff_eq]; have := HU.out; omega
      have HOW := Lib.hid (own_below HO.out HBE.out)
      have HB1 : Hid (bt s 1 = 117) := Lib.hid (by rw [bt_in hs, hc]; exact HU.out)
      have UN := Lib.hid (fun wx => unit_any (s.extract 2 s.size) false wx)
      rw [bt_extract s 2 (by omega)] at UN
      generalize hu1 : unitN (fun j => bt s (2 + j)) false 4 0 0 = u1 at *
      have HU1 := Lib.hid hu1
      clear hu1
      obtain ⟨x, n, ok⟩ := u1
      go_wp2_with fail
      refine (UN.out _).mono ?_
      rintro e w2 ⟨rfl, hb2⟩
      have HB2 : Hid (Below w.heap.size w w2) := Lib.hid (HBE.out.trans (hb2.mono HBE.out.size))
      have HOW2 := Lib.hid (own_below HOW.out hb2)
      clear hb2 UN HOW HBE HNE
      have n4 : Hid (n ≤ 4) := Lib.hid (unit_n (fun j => bt s (2 + j)) false x n ok HU1.out)
      cases ok with
      | false =>
        have e1 := Lib.hid (IntWalk.i64_in (2 + (n : Int)) (by have := n4.out; omega))
        have e1 := e1.out
        go_wp2_with fail
        go_ret3
        rw [sN_1 (bt s) x n HB1.out HU1.out]
        exact ⟨v, rfl, by rw [List.append_nil]; exact HOW2.out, HB2.out.mono HB.out, HB2.out.size⟩
      | true =>
        obtain ⟨hx1, hx2, rfl⟩ := unit_free _ x n HU1.out
        by_cases h54 : x / 1024 = 54
        · have x54 : (x : Int) / 1024 = 54 := by omega
          have HX54 := Lib.hid h54
          have HX1 := Lib.hid hx1
          have y0 : 0 ≤ (x : Int) := by omega
          clear hx1 hx2 h54
          by_cases h6 : bt s 6 = 92
          · have hs6 : 6 < s.size := by
              by_cases k : 6 < s.size
              · exact k
              · rw [bt_out (by omega)] at h6; omega
            rw [bt_in hs6] at h6
            have H6 : Hid (bt s 6 = 92) := Lib.hid (by rw [bt_in hs6]; exact h6)
            have s6 : (6 : Int) < (s.size : Int) := by omega
            generalize hc6 : s[6].toNat = c6 at *
            obtain rfl := h6
            by_cases h7 : bt s 7 = 117
            · have hs7 : 7 < s.size := by
                by_cases k : 7 < s.size
                · exact k
                · rw [bt_out (by omega)] at h7; omega
              rw [bt_in hs7] at h7
              have H7 : Hid (bt s 7 = 117) := Lib.hid (by rw [bt_in hs7]; exact h7)
              have s7 : (7 : Int) < (s.size : Int) := by omega
              generalize hc7 : s[7].toNat = c7 at *
              obtain rfl := h7
              have VN := Lib.hid (fun wx => unit_any (s.extract 8 s.size) true wx)
              rw [bt_extract s 8 (by omega)] at VN
              generalize hv1 : unitN (fun j => bt s (8 + j)) true 4 0 0 = v1 at *
              have HV1 := Lib.hid hv1
              clear hv1
              obtain ⟨y, n2, ok2⟩ := v1
              have n24 : Hid (n2 ≤ 4) := Lib.hid (unit_n (fun j => bt s (8 + j)) true y n2 ok2 HV1.out)
              have s8 : (8 : Int) ≤ (s.size : Int) := by omega
              have HBA : Hid (Below w.heap.size w (w2.alloc (.cells #[.int .u8 92, .int .u8 117] 5))) := Lib.hid (HB2.out.alloc HB2.out.size _)
              have HOA := Lib.hid (HOW2.out.alloc (.cells #[.int .u8 92, .int .u8 117] 5))
              go_upto_region 18 with fail
              refine wp_loop_rounds 3 ?_
              rw [rounds_succ]
              go_wp2_with fail
              rw [rounds_succ]
              go_wp2_with fail
              rw [rounds_succ]
              go_wp2_with fail
              refine (VN.out _).mono ?_
              rintro e w3 ⟨rfl, hb3⟩
              have HB3 : Hid (Below w.heap.size w w3) := Lib.hid (HBA.out.trans (hb3.mono (by have := HB2.out.size; simp; omega)))
              have HOW3 := Lib.hid (own_below HOA.out hb3)
              clear hb3 VN HBA HOA
              cases ok2 with
              | false =>
                have e1 := Lib.hid (IntWalk.i64_in (8 + (n2 : Int)) (by have := n24.out; omega))
                have e1 := e1.out
                go_wp2_with fail
                go_ret3
                rw [sN_5 (bt s) x 4 HB1.out HU1.out HX54.out H6.out H7.out y n2 HV1.out]
                exact ⟨v, rfl, by rw [List.append_nil]; exact HOW3.out, HB3.out.mono HB.out, HB3.out.size⟩
              | true =>
                obtain ⟨hy1, hy2, rfl⟩ := unit_low _ y n2 HV1.out
                have hxx := HX1.out
                have hx5 := HX54.out
                obtain ⟨R, hR⟩ : ∃ R, R = 65536 + (x - 55296) * 1024 + y - 56320 := ⟨_, rfl⟩
                have HRL : Hid (R < 1114112) := Lib.hid (by omega)
                have TX := Lib.hid (fun g wx hb => fromUnits_pair x y R (by omega) (by omega) hy1 hy2 hR g wx hb)
                have m1 : (x : Int) % 65536 = (x : Int) := by omega
                have m2 : (y : Int) % 65536 = (y : Int) := by omega
                have HR := Lib.hid hR
                have y1 : 0 ≤ (y : Int) := by omega
                clear hy1 hy2 hxx hx5 hR
                unfold TextPost at TX
                obtain ⟨Z, hZ⟩ : ∃ Z, strOf (encN R) = Z := ⟨_, rfl⟩
                rw [hZ] at TX
                have HZC : Hid (strCells Z = vals .u8 (encN R)) := Lib.hid (by rw [← hZ]; exact str_cells _ (encN_byte _ HRL.out))
                have HZN : Hid (Z.size = (encN R).length) := Lib.hid (by rw [← hZ]; show ((encN R).map UInt8.ofNat).toArray.size = _; simp)
                have HZS : Hid (Z.size ≤ 4) := Lib.hid (by rw [HZN.out]; exact (encN_len R).2)
                clear hZ
                go_wp2_with fail
                refine (TX.out w3.heap.size _ (Blk.new _ _ _)).mono ?_
                rintro e w4 ⟨rfl, hb4⟩
                have HB4 : Hid (Below w.heap.size w w4) := Lib.hid ((HB3.out.alloc HB3.out.size _).trans (hb4.mono (by have := HB3.out.size; simp; omega)))
                have HOW4 := Lib.hid (own_below (HOW3.out.alloc _) hb4)
                clear hb4 TX
                go_wp2_with (at_builtin; refine wpList_append_own_string _ rfl _ _ 35 9 rfl base 5 i0 Tryd.underlying35 Tryd.underlying9 hi hz0 hz1 hz2 v xs.length (vals .u8 xs) rfl HOW4.out Z rfl ?c1 ?c2 ?c3 ?_)
                case c1 => unfold maxLen; have := HL.out; have := HZS.out; omega
                case c2 => have := HL.out; have := HZS.out; omega
                case c3 => exact Nat.le_trans HB.out HB4.out.size
                intro v2 w5 hown2 hg2 _
                have HOWN : Hid (w5.ownsRow base 5 1 v2 (xs ++ encN R).length (vals .u8 (xs ++ encN R))) := Lib.hid (by
                  rw [HZC.out] at hown2
                  rw [List.length_append, vals_append, ← HZN.out]
                  exact hown2)
                have HG : Hid (Below base w w5) := Lib.hid ((HB4.out.mono HB.out).grown hg2 (Nat.le_trans HB.out HB4.out.size) (fun q hq => (HOW4.out.lt q hq).1))
                clear hown2 hg2
                go_wp2_with fail
                go_ret3
                rw [sN_6 (bt s) x 4 HB1.out HU1.out HX54.out H6.out H7.out y 4 HV1.out, ← HR.out]
                exact ⟨v2, rfl, HOWN.out, HG.out, HG.out.size⟩
            · have H7 := Lib.hid h7
              have HBA : Hid (Below w.heap.size w (w2.alloc (.cells #[.int .u8 92, .int .u8 117] 5))) := Lib.hid (HB2.out.alloc HB2.out.size _)
              have HOA := Lib.hid (HOW2.out.alloc (.cells #[.int .u8 92, .int .u8 117] 5))
              by_cases hs7 : 7 < s.size
              · have s7 : (7 : Int) < (s.size : Int) := by omega
                rw [bt_in hs7] at h7
                generalize hc7 : s[7].toNat = c7 at *
                have z7 : ((c7 : Int) != 117) = true := by rw [bne_iff_ne]; omega
                clear h7
                go_upto_region 18 with fail
                refine wp_loop_rounds 2 ?_
                rw [rounds_succ]
                go_wp2_with fail
                rw [rounds_succ]
                go_wp2_with fail
                go_ret3
                rw [sN_4 (bt s) x 4 HB1.out HU1.out HX54.out H6.out H7.out]
                exact ⟨v, rfl, by rw [List.append_nil]; exact HOA.out, HBA.out.mono HB.out, HBA.out.size⟩
              · have s7 : ¬ ((7 : Int) < (s.size : Int)) := by omega
                have s7' : (s.size : Int) ≤ 7 := by omega
                clear h7
                go_upto_region 18 with fail
                refine wp_loop_rounds 2 ?_
                rw [rounds_succ]
                go_wp2_with fail
                rw [rounds_succ]
                go_wp2_with fail
                go_ret3
                rw [sN_4 (bt s) x 4 HB1.out HU1.out HX54.out H6.out H7.out]
                exact ⟨v, rfl, by rw [List.append_nil]; exact HOA.out, HBA.out.mono HB.out, HBA.out.size⟩
          · have H6 := Lib.hid h6
            have HBA : Hid (Below w.heap.size w (w2.alloc (.cells #[.int .u8 92, .int .u8 117] 5))) := Lib.hid (HB2.out.alloc HB2.out.size _)
            have HOA := Lib.hid (HOW2.out.alloc (.cells #[.int .u8 92, .int .u8 117] 5))
            by_cases hs6 : 6 < s.size
            · have s6 : (6 : Int) < (s.size : Int) := by omega
              rw [bt_in hs6] at h6
              generalize hc6 : s[6].toNat = c6 at *
              have z6 : ((c6 : Int) != 92) = true := by rw [bne_iff_ne]; omega
              clear h6
              go_upto_region 18 with fail
              refine wp_loop_rounds 1 ?_
              rw [rounds_succ]
              go_wp2_with fail
              go_ret3
              rw [sN_3 (bt s) x 4 HB1.out HU1.out HX54.out H6.out]
              exact ⟨v, rfl, by rw [List.append_nil]; exact HOA.out, HBA.out.mono HB.out, HBA.out.size⟩
            · have s6 : ¬ ((6 : Int) < (s.size : Int)) := by omega
              have s6' : (s.size : Int) ≤ 6 := by omega
              clear h6
              go_upto_region 18 with fail
              refine wp_loop_rounds 1 ?_
              rw [rounds_succ]
              go_wp2_with fail
              go_ret3
              rw [sN_3 (bt s) x 4 HB1.out HU1.out HX54.out H6.out]
              exact ⟨v, rfl, by rw [List.append_nil]; exact HOA.out, HBA.out.mono HB.out, HBA.out.size⟩
        · have HP : Hid (isPt x = true) := Lib.hid (decide_eq_true (by omega))
          have HRL : Hid (x < 1114112) := Lib.hid (by omega)
          have HX : Hid (x / 1024 ≠ 54) := Lib.hid h54
          have hz54 : ((x : Int) / 1024 == 54) = false := by rw [beq_eq_false_iff_ne]; omega
          have y0 : 0 ≤ (x : Int) := by omega
          have TX := Lib.hid (fun g wx hb => text_one x HP.out g wx hb)
          clear hx1 hx2 h54
          unfold TextPost at TX
          obtain ⟨R, hR⟩ : ∃ R, R = x := ⟨_, rfl⟩
          rw [← hR] at HRL
          have HR := Lib.hid hR
          rw [← hR] at TX
          clear hR
          have hRx := HR.out
          subst hRx
          obtain ⟨Z, hZ⟩ : ∃ Z, strOf (encN R) = Z := ⟨_, rfl⟩
          rw [hZ] at TX
          have HZC : Hid (strCells Z = vals .u8 (encN R)) := Lib.hid (by rw [← hZ]; exact str_cells _ (encN_byte _ HRL.out))
          have HZN : Hid (Z.size = (encN R).length) := Lib.hid (by rw [← hZ]; show ((encN R).map UInt8.ofNat).toArray.size = _; simp)
          have HZS : Hid (Z.size ≤ 4) := Lib.hid (by rw [HZN.out]; exact (encN_len R).2)
          clear hZ
          go_wp2_with fail
          refine (TX.out w2.heap.size _ (Blk.new _ _ _)).mono ?_
          rintro e w4 ⟨rfl, hb4⟩
          have HB4 : Hid (Below w.heap.size w w4) := Lib.hid ((HB2.out.alloc HB2.out.size _).trans (hb4.mono (by have := HB2.out.size; simp; omega)))
          have HOW4 := Lib.hid (own_below (HOW2.out.alloc _) hb4)
          clear hb4 TX
          go_wp2_with (at_builtin; refine wpList_append_own_string _ rfl _ _ 35 9 rfl base 5 i0 Tryd.underlying35 Tryd.underlying9 hi hz0 hz1 hz2 v xs.length (vals .u8 xs) rfl HOW4.out Z rfl ?c1 ?c2 ?c3 ?_)
          case c1 => unfold maxLen; have := HL.out; have := HZS.out; omega
          case c2 => have := HL.out; have := HZS.out; omega
          case c3 => exact Nat.le_trans HB.out HB4.out.size
          intro v2 w5 hown2 hg2 _
          have HOWN : Hid (w5.ownsRow base 5 1 v2 (xs ++ encN R).length (vals .u8 (xs ++ encN R))) := Lib.hid (by
            rw [HZC.out] at hown2
            rw [List.length_append, vals_append, ← HZN.out]
            exact hown2)
          have HG : Hid (Below base w w5) := Lib.hid ((HB4.out.mono HB.out).grown hg2 (Nat.le_trans HB.out HB4.out.size) (fun q hq => (HOW4.out.lt q hq).1))
          clear hown2 hg2
          go_wp2_with fail
          go_ret3
          rw [sN_2 (bt s) R 4 HB1.out HU1.out HX.out]
          exact ⟨v2, rfl, HOWN.out, HG.out, HG.out.size⟩
set_option maxRecDepth 100000 in
set_option maxHeartbeats 1500000 in
theorem pstroke_letter (base : Nat) (v : Value) (xs : List Nat) (s : ByteArray) (hs : 1 < s.size) (c : Nat) (hc : s[1].toNat = c) (m : Nat) (hm : letM c = some m) (w : World) (ho : w.ownsRow base 5 1 v xs.length (vals .u8 xs)) (hl : xs.length ≤ 140737488355000) (hb : base ≤ w.heap.size) (hsh : Shorts w) :
    Calls Tryd.prog 40 #[v, .string s] w (StrokePost w base xs ([m], 2, true)) := by
  have HO := Lib.hid ho
  have HL := Lib.hid hl
  have HB := Lib.hid hb
  have SH := Lib.hid hsh
  have HM := Lib.hid hm
  have k0 : w.cell? ⟨1, 0, none⟩ = some (.int .u8 34) := (hsh.2 0 (by decide)).1
  have k1 : w.cell? ⟨1, 1, none⟩ = some (.int .u8 34) := (hsh.2 0 (by decide)).2
  have k2 : w.cell? ⟨1, 2, none⟩ = some (.int .u8 92) := (hsh.2 1 (by decide)).1
  have k3 : w.cell? ⟨1, 3, none⟩ = some (.int .u8 92) := (hsh.2 1 (by decide)).2
  have k4 : w.cell? ⟨1, 4, none⟩ = some (.int .u8 98) := (hsh.2 2 (by decide)).1
  have k5 : w.cell? ⟨1, 5, none⟩ = some (.int .u8 8) := (hsh.2 2 (by decide)).2
  have k6 : w.cell? ⟨1, 6, none⟩ = some (.int .u8 116) := (hsh.2 3 (by decide)).1
  have k7 : w.cell? ⟨1, 7, none⟩ = some (.int .u8 9) := (hsh.2 3 (by decide)).2
  have k8 : w.cell? ⟨1, 8, none⟩ = some (.int .u8 110) := (hsh.2 4 (by decide)).1
  have k9 : w.cell? ⟨1, 9, none⟩ = some (.int .u8 10) := (hsh.2 4 (by decide)).2
  have k10 : w.cell? ⟨1, 10, none⟩ = some (.int .u8 102) := (hsh.2 5 (by decide)).1
  have k11 : w.cell? ⟨1, 11, none⟩ = some (.int .u8 12) := (hsh.2 5 (by decide)).2
  have k12 : w.cell? ⟨1, 12, none⟩ = some (.int .u8 114) := (hsh.2 6 (by decide)).1
  have k13 : w.cell? ⟨1, 13, none⟩ = some (.int .u8 13) := (hsh.2 6 (by decide)).2
  have k14 : w.cell? ⟨1, 14, none⟩ = some (.int .u8 47) := (hsh.2 7 (by decide)).1
  have k15 : w.cell? ⟨1, 15, none⟩ = some (.int .u8 47) := (hsh.2 7 (by decide)).2
  have hs1 : ((s.size : Int) == 1) = false := by rw [beq_eq_false_iff_ne]; omega
  have hs2 : (1 : Int) < (s.size : Int) := by omega
  clear ho hl hb hsh hm
  obtain ⟨i0, hi, hz0, hz1, hz2⟩ := info_parts info_u8
  go_enter Tryd.func40, Tryd.ntmps40
  go_upto_region 4 with fail
  clear k0 k1 k2 k3 k4 k5 k6 k7 k8 k9 k10 k11 k12 k13 k14 k15
  go_loopw [4, 5, 6, 24] (fun _ _ _ v24 wr => ∃ j : Nat, v24 = .int .i64 j ∧ j ≤ 8 ∧ (∀ t, t < j → shL t ≠ c) ∧ Below w.heap.size w wr) (fun _ _ _ v24 _ => 8 - (intOf v24).toNat)
  case atStart => exact ⟨0, rfl, by omega, fun t ht => absurd ht (by omega), Below.refl _ _⟩
  case round =>
    obtain ⟨j, rfl, hj, hne, hbel⟩ := hrel
    have HNE := Lib.hid hne
    have HBE := Lib.hid hbel
    clear hne hbel
    by_cases h8 : j < 8
    · have ix := tab_at j h8
      have h8' : (j : Int) < 8 := by omega
      by_cases hq : shL j = c
      · have HJ : Hid (shM j = m) := Lib.hid (by have h := short_let j h8; rw [hq, HM.out] at h; exact (Option.some.inj h).symm)
        rw [hq, HJ.out] at ix
        clear hq
        go_upto_region 6 with fail
        have HB1 := Lib.hid (HBE.out.alloc HBE.out.size (.cells #[.int .u8 c, .int .u8 m] 84))
        have HK := Lib.hid (Blk.new wr 84 #[.int .u8 c, .int .u8 m])
        generalize wr.alloc (.cells #[.int .u8 c, .int .u8 m] 84) = w1 at *
        generalize wr.heap.size = g at *
        have x0 := HK.out.cell 0
        have x1 := HK.out.cell 1
        go_region_law (fail)
        all_goals
          have HB2 : Hid (Below w.heap.size w w1.drew) := Lib.hid (below_drewN' HB1.out 1)
          have HK2 : Hid (Blk w1.drew g 84 #[.int .u8 c, .int .u8 m]) := Lib.hid HK.out.drew
          clear x0 x1 HB1 HK
          generalize w1.drew = w2 at *
          have HO2 := Lib.hid (own_below HO.out HB2.out)
          have HP := Lib.hid (HO2.out.alloc (.cells #[.int .u8 m] 5))
          have x1 := HK2.out.cell 1
          go_upto_region 7 with fail
          go_wp2_with (at_builtin; refine wpList_append_own _ rfl _ _ 35 rfl base 5 i0 (.int .u8 0) 1 1 Tryd.underlying35 hi hz0 hz1 hz2 rfl (by decide) _ _ _ rfl HP.out ⟨w2.heap.size, 0, none⟩ 1 1 [.int .u8 m] rfl rfl ?c1 ?c2 ?c3 ?c4 ?c5 ?_)
          (try case c1 => exact World.news_of_block (cs := #[.int .u8 m]) (heap_alloc_new _ _))
          case c2 => first | rfl | exact one_mem [m]
          case c3 => unfold maxLen; have := HL.out; omega
          case c4 => have := HL.out; omega
          case c5 => have := HB.out; have := HB2.out.size; simp; omega
          intro v2 w3 hown2 hg2 _
          have HOWN := Lib.hid hown2
          have HG : Hid (Below base w w3) := Lib.hid (((HB2.out.mono HB.out).alloc (Nat.le_trans HB.out HB2.out.size) _).grown hg2 (by have := HB.out; have := HB2.out.size; simp; omega) (fun q hq => (HO2.out.lt q hq).1))
          clear hown2 hg2
          go_wp2_with fail
          go_ret3
          exact ⟨v2, rfl, by rw [List.length_append, vals_append]; exact HOWN.out, HG.out, HG.out.size⟩
      · have hq' : (((shL j : Nat) : Int) == (c : Int)) = false := by rw [beq_eq_false_iff_ne]; omega
        have HQ := Lib.hid hq
        obtain ⟨l, hlj⟩ : ∃ l, shL j = l := ⟨_, rfl⟩
        obtain ⟨m, hmj⟩ : ∃ m, shM j = m := ⟨_, rfl⟩
        rw [hlj] at ix hq'
        rw [hmj] at ix
        clear hq hlj hmj
        go_upto_region 6 with fail
        have HB1 := Lib.hid (HBE.out.alloc HBE.out.size (.cells #[.int .u8 l, .int .u8 m] 84))
        have HK := Lib.hid (Blk.new wr 84 #[.int .u8 l, .int .u8 m])
        generalize wr.alloc (.cells #[.int .u8 l, .int .u8 m] 84) = w1 at *
        generalize wr.heap.size = g at *
        have x0 := HK.out.cell 0
        have x1 := HK.out.cell 1
        go_region_law (fail)
        all_goals
          go_wp2_with fail
          go_roundw
          case rel => exact ⟨j + 1, by go_num, by omega, fun t ht => by
            by_cases q : t < j
            · exact HNE.out t q
            · obtain rfl : t = j := by omega
              exact HQ.out, below_drewN' HB1.out 1⟩
          case measure => simp [intOf]; omega
    · have h := short_none c (fun t ht => HNE.out t (by omega))
      rw [HM.out] at h
      cases h
set_option maxRecDepth 100000 in
set_option maxHeartbeats 1500000 in
theorem pstroke_nu (base : Nat) (v : Value) (xs : List Nat) (s : ByteArray) (hs : 1 < s.size) (c : Nat) (hc : s[1].toNat = c) (hm : letM c = none) (hu : c ≠ 117) (w : World) (ho : w.ownsRow base 5 1 v xs.length (vals .u8 xs)) (hl : xs.length ≤ 140737488355000) (hb : base ≤ w.heap.size) (hsh : Shorts w) :
    Calls Tryd.prog 40 #[v, .string s] w (StrokePost w base xs ([], 1, false)) := by
  have HO := Lib.hid ho
  have HL := Lib.hid hl
  have HB := Lib.hid hb
  have SH := Lib.hid hsh
  have HM := Lib.hid hm
  have HU := Lib.hid hu
  have k0 : w.cell? ⟨1, 0, none⟩ = some (.int .u8 34) := (hsh.2 0 (by decide)).1
  have k1 : w.cell? ⟨1, 1, none⟩ = some (.int .u8 34) := (hsh.2 0 (by decide)).2
  have k2 : w.cell? ⟨1, 2, none⟩ = some (.int .u8 92) := (hsh.2 1 (by decide)).1
  have k3 : w.cell? ⟨1, 3, none⟩ = some (.int .u8 92) := (hsh.2 1 (by decide)).2
  have k4 : w.cell? ⟨1, 4, none⟩ = some (.int .u8 98) := (hsh.2 2 (by decide)).1
  have k5 : w.cell? ⟨1, 5, none⟩ = some (.int .u8 8) := (hsh.2 2 (by decide)).2
  have k6 : w.cell? ⟨1, 6, none⟩ = some (.int .u8 116) := (hsh.2 3 (by decide)).1
  have k7 : w.cell? ⟨1, 7, none⟩ = some (.int .u8 9) := (hsh.2 3 (by decide)).2
  have k8 : w.cell? ⟨1, 8, none⟩ = some (.int .u8 110) := (hsh.2 4 (by decide)).1
  have k9 : w.cell? ⟨1, 9, none⟩ = some (.int .u8 10) := (hsh.2 4 (by decide)).2
  have k10 : w.cell? ⟨1, 10, none⟩ = some (.int .u8 102) := (hsh.2 5 (by decide)).1
  have k11 : w.cell? ⟨1, 11, none⟩ = some (.int .u8 12) := (hsh.2 5 (by decide)).2
  have k12 : w.cell? ⟨1, 12, none⟩ = some (.int .u8 114) := (hsh.2 6 (by decide)).1
  have k13 : w.cell? ⟨1, 13, none⟩ = some (.int .u8 13) := (hsh.2 6 (by decide)).2
  have k14 : w.cell? ⟨1, 14, none⟩ = some (.int .u8 47) := (hsh.2 7 (by decide)).1
  have k15 : w.cell? ⟨1, 15, none⟩ = some (.int .u8 47) := (hsh.2 7 (by decide)).2
  have hs1 : ((s.size : Int) == 1) = false := by rw [beq_eq_false_iff_ne]; omega
  have hs2 : (1 : Int) < (s.size : Int) := by omega
  clear ho hl hb hsh hm hu
  obtain ⟨i0, hi, hz0, hz1, hz2⟩ := info_parts info_u8
  go_enter Tryd.func40, Tryd.ntmps40
  go_upto_region 4 with fail
  clear k0 k1 k2 k3 k4 k5 k6 k7 k8 k9 k10 k11 k12 k13 k14 k15
  go_loopw [4, 5, 6, 24] (fun _ _ _ v24 wr => ∃ j : Nat, v24 = .int .i64 j ∧ j ≤ 8 ∧ (∀ t, t < j → shL t ≠ c) ∧ Below w.heap.size w wr) (fun _ _ _ v24 _ => 8 - (intOf v24).toNat)
  case atStart => exact ⟨0, rfl, by omega, fun t ht => absurd ht (by omega), Below.refl _ _⟩
  case round =>
    obtain ⟨j, rfl, hj, hne, hbel⟩ := hrel
    have HNE := Lib.hid hne
    have HBE := Lib.hid hbel
    clear hne hbel
    by_cases h8 : j < 8
    · have ix := tab_at j h8
      have h8' : (j : Int) < 8 := by omega
      by_cases hq : shL j = c
      · have h := short_let j h8
        rw [hq, HM.out] at h
        cases h
      · have hq' : (((shL j : Nat) : Int) == (c : Int)) = false := by rw [beq_eq_false_iff_ne]; omega
        have HQ := Lib.hid hq
        obtain ⟨l, hlj⟩ : ∃ l, shL j = l := ⟨_, rfl⟩
        obtain ⟨m, hmj⟩ : ∃ m, shM j = m := ⟨_, rfl⟩
        rw [hlj] at ix hq'
        rw [hmj] at ix
        clear hq hlj hmj
        go_upto_region 6 with fail
        have HB1 := Lib.hid (HBE.out.alloc HBE.out.size (.cells #[.int .u8 l, .int .u8 m] 84))
        have HK := Lib.hid (Blk.new wr 84 #[.int .u8 l, .int .u8 m])
        generalize wr.alloc (.cells #[.int .u8 l, .int .u8 m] 84) = w1 at *
        generalize wr.heap.size = g at *
        have x0 := HK.out.cell 0
        have x1 := HK.out.cell 1
        go_region_law (fail)
        all_goals
          go_wp2_with fail
          go_roundw
          case rel => exact ⟨j + 1, by go_num, by omega, fun t ht => by
            by_cases q : t < j
            · exact HNE.out t q
            · obtain rfl : t = j := by omega
              exact HQ.out, below_drewN' HB1.out 1⟩
          case measure => simp [intOf]; omega
    · have h8' : ¬ ((j : Int) < 8) := by omega
      have h117' : ((c : Int) == 117) = false := by rw [beq_eq_false_iff_ne]; have := HU.out; omega
      go_wp2_with fail
      go_ret3
      exact ⟨v, rfl, by rw [List.append_nil]; exact own_below HO.out HBE.out, HBE.out.mono HB.out, HBE.out.size⟩
theorem pstroke_any (base : Nat) (v : Value) (xs : List Nat) (s : ByteArray) (hs : 0 < s.size) (w : World) (ho : w.ownsRow base 5 1 v xs.length (vals .u8 xs)) (hl : xs.length ≤ 140737488355000) (hb : base ≤ w.heap.size) (hsh : Shorts w) :
    Calls Tryd.prog 40 #[v, .string s] w (StrokePost w base xs (strokeN (bt s))) := by
  by_cases h1 : s.size = 1
  · have : strokeN (bt s) = ([], 1, false) := by
      unfold strokeN
      rw [bt_out (by omega), show letM 256 = none from rfl]
      exact if_pos (by decide)
    rw [this]
    exact pstroke_one base v xs s h1 w ho
  have hs1 : 1 < s.size := by omega
  obtain ⟨c, hc⟩ : ∃ c, s[1].toNat = c := ⟨_, rfl⟩
  by_cases hu : c = 117
  · exact pstroke_u base v xs s hs1 c hc hu w ho hl hb hsh
  cases hm : letM c with
  | some m =>
    have : strokeN (bt s) = ([m], 2, true) := by
      unfold strokeN
      rw [bt_in hs1, hc, hm]
    rw [this]
    exact pstroke_letter base v xs s hs1 c hc m hm w ho hl hb hsh
  | none =>
    have : strokeN (bt s) = ([], 1, false) := by
      unfold strokeN
      rw [bt_in hs1, hc, hm]
      exact if_pos hu
    rw [this]
    exact pstroke_nu base v xs s hs1 c hc hm hu w ho hl hb hsh
end
end Go.Proofs.YtjfeebbhkolmoaaDoor.E
