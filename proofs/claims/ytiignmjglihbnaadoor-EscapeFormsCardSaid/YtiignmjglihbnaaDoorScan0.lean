/- escape.bad by its contract, and what escape.Scan does, in plain terms. -/
import Derived.Test.YtiignmjglihbnaaDoorPStroke
import Derived.Test.YtiignmjglihbnaaDoorPoint
import Derived.Test.YtiignmjglihbnaaDoorErrLaw
namespace Go.Proofs.YtiignmjglihbnaaDoor
open Go.RowKit Go.Lib
set_option linter.unusedVariables false

set_option maxRecDepth 100000 in
theorem bad_err (n : Int) (a : Nat → Addr) (w : World) (he : Errs w a) :
    Calls Tryd.prog 24 #[.int .i64 n] w fun e w' => e = .returned (.iface 66 (.pointer (some ⟨w.heap.size, 0, none⟩))) ∧ FaultB w' w.heap.size (a 2) n ∧ Below w.heap.size w w' := by
  have s2 := he.sen 2 (by decide)
  simp only [Nat.reduceAdd] at s2
  clear he
  go_enter Tryd.func24, Tryd.ntmps24
  go_wp2_with fail
  go_ret
  exact ⟨rfl, Blk.new _ _ _, (Below.refl _ _).alloc (Nat.le_refl _) _⟩

def bytesAt (b : Nat → Nat) (k n : Nat) : List Nat := (List.range n).map fun j => b (k + j)
theorem bytesAt_len (b : Nat → Nat) (k n : Nat) : (bytesAt b k n).length = n := by unfold bytesAt; simp
theorem ext_cells (s : ByteArray) (k n : Nat) (h : k + n ≤ s.size) : strCells (s.extract k (k + n)) = vals .u8 (bytesAt (bt s) k n) := by
  unfold strCells vals bytesAt
  rw [List.map_map]
  apply List.ext_getElem
  · have hs : (s.extract k (k + n)).size = n := by simp; omega
    simp
    have : s.data.size = s.size := rfl
    omega
  · intro i h1 h2
    have hi : i < n := by simpa using h2
    simp only [List.getElem_map, List.getElem_range, Function.comp]
    rw [bt_in (s := s) (i := k + i) (by omega)]
    simp
    rfl
theorem bytesAt_byte (s : ByteArray) (k n : Nat) (h : k + n ≤ s.size) : ByteL (bytesAt (bt s) k n) := by
  intro x hx
  unfold bytesAt at hx
  obtain ⟨j, hj, rfl⟩ := List.mem_map.1 hx
  exact bt_lt (by have := List.mem_range.1 hj; omega)

theorem contN_le (b : Nat → Nat) (sz : Nat) : ∀ l i lo hi, i ≤ sz → (contN b sz l i lo hi).1 ≤ sz ∧ i ≤ (contN b sz l i lo hi).1 ∧ (contN b sz l i lo hi).1 ≤ i + l ∧ ((contN b sz l i lo hi).2 = true → (contN b sz l i lo hi).1 = i + l) := by
  intro l
  induction l with
  | zero => intro i lo hi h; unfold contN; exact ⟨h, Nat.le_refl _, Nat.le_refl _, fun _ => rfl⟩
  | succ l ih =>
    intro i lo hi h
    unfold contN
    by_cases q : i < sz ∧ lo ≤ b i ∧ b i ≤ hi
    · rw [if_pos q]
      have := ih (i + 1) 128 191 (by omega)
      exact ⟨this.1, by omega, by omega, fun k => by have := this.2.2.2 k; omega⟩
    · rw [if_neg q]
      exact ⟨h, Nat.le_refl _, by show i ≤ _; omega, fun k => by cases k⟩
theorem moreB_le (c : Nat) : 1 ≤ moreB c ∧ moreB c ≤ 3 := by unfold moreB; split <;> (try split) <;> omega
theorem pointN_le (b : Nat → Nat) (sz : Nat) (h : 0 < sz) : (pointN b sz).1 ≤ sz ∧ (pointN b sz).1 ≤ 4 ∧ ((pointN b sz).2 = true → 1 ≤ (pointN b sz).1) := by
  unfold pointN
  by_cases q : b 0 < 194 ∨ 244 < b 0
  · rw [if_pos q]; exact ⟨Nat.zero_le _, Nat.zero_le _, fun k => by cases k⟩
  · rw [if_neg q]
    have h1 := contN_le b sz (moreB (b 0)) 1 (loB (b 0)) (hiB (b 0)) h
    have h2 := moreB_le (b 0)
    exact ⟨h1.1, by omega, fun _ => h1.2.1⟩
theorem tri_le (l : List Nat) (n : Nat) (b : Bool) (h : l.length ≤ n) (h1 : 1 ≤ n) (h2 : n ≤ 12) : ((l, n, b) : List Nat × Nat × Bool).2.1 ≤ 12 ∧ 1 ≤ ((l, n, b) : List Nat × Nat × Bool).2.1 ∧ ((l, n, b) : List Nat × Nat × Bool).1.length ≤ ((l, n, b) : List Nat × Nat × Bool).2.1 := ⟨h2, h1, h⟩
theorem strokeN_le (b : Nat → Nat) : (strokeN b).2.1 ≤ 12 ∧ 1 ≤ (strokeN b).2.1 ∧ (strokeN b).1.length ≤ (strokeN b).2.1 := by
  have u1 : (unitN (fun j => b (2 + j)) false 4 0 0).2.1 ≤ 4 := unit_n (fun j => b (2 + j)) false (unitN (fun j => b (2 + j)) false 4 0 0).1 (unitN (fun j => b (2 + j)) false 4 0 0).2.1 (unitN (fun j => b (2 + j)) false 4 0 0).2.2 rfl
  have u2 : (unitN (fun j => b (8 + j)) true 4 0 0).2.1 ≤ 4 := unit_n (fun j => b (8 + j)) true (unitN (fun j => b (8 + j)) true 4 0 0).1 (unitN (fun j => b (8 + j)) true 4 0 0).2.1 (unitN (fun j => b (8 + j)) true 4 0 0).2.2 rfl
  unfold strokeN
  split
  · exact tri_le _ _ _ (by show 1 ≤ 2; omega) (by omega) (by omega)
  split
  · exact tri_le _ _ _ (Nat.zero_le _) (by omega) (by omega)
  split
  · exact tri_le _ _ _ (Nat.zero_le _) (by omega) (by omega)
  split
  · exact tri_le _ _ _ (Nat.le_trans (encN_len _).2 (by omega)) (by omega) (by omega)
  split
  · exact tri_le _ _ _ (Nat.zero_le _) (by omega) (by omega)
  split
  · exact tri_le _ _ _ (Nat.zero_le _) (by omega) (by omega)
  split
  · exact tri_le _ _ _ (Nat.zero_le _) (by omega) (by omega)
  · exact tri_le _ _ _ (Nat.le_trans (encN_len _).2 (by omega)) (by omega) (by omega)
theorem byte_of (l : List Nat) (n : Nat) (b : Bool) (h : ByteL l) : ByteL ((l, n, b) : List Nat × Nat × Bool).1 := h
theorem byte_nil : ByteL [] := by intro x hx; cases hx
theorem strokeN_byte (b : Nat → Nat) : ByteL (strokeN b).1 := by
  unfold strokeN
  split
  · rename_i m hm; exact byte_of _ _ _ (.one (letM_lt _ _ hm))
  split
  · exact byte_of _ _ _ byte_nil
  split
  · exact byte_of _ _ _ byte_nil
  rename_i hok
  have f1 := unit_free (fun j => b (2 + j)) (unitN (fun j => b (2 + j)) false 4 0 0).1 (unitN (fun j => b (2 + j)) false 4 0 0).2.1 (by
    generalize unitN (fun j => b (2 + j)) false 4 0 0 = u at *
    obtain ⟨x, n, ok⟩ := u
    cases ok
    · exact absurd rfl hok
    · rfl)
  split
  · exact byte_of _ _ _ (encN_byte _ (by omega))
  rename_i h54
  split
  · exact byte_of _ _ _ byte_nil
  split
  · exact byte_of _ _ _ byte_nil
  split
  · exact byte_of _ _ _ byte_nil
  rename_i hok2
  have f2 := unit_low (fun j => b (8 + j)) (unitN (fun j => b (8 + j)) true 4 0 0).1 (unitN (fun j => b (8 + j)) true 4 0 0).2.1 (by
    generalize unitN (fun j => b (8 + j)) true 4 0 0 = u at *
    obtain ⟨x, n, ok⟩ := u
    cases ok
    · exact absurd rfl hok2
    · rfl)
  have h54' : (unitN (fun j => b (2 + j)) false 4 0 0).1 / 1024 = 54 := by
    by_cases k : (unitN (fun j => b (2 + j)) false 4 0 0).1 / 1024 = 54
    · exact k
    · exact absurd k h54
  exact byte_of _ _ _ (encN_byte _ (by omega))

/-- one piece of a literal: the bytes it says, how many it has, whether it is one -/
def pieceN (b : Nat → Nat) (sz i : Nat) : List Nat × Nat × Bool :=
  if b i = 92 then strokeN (fun j => b (i + j))
  else if 32 ≤ b i ∧ b i ≤ 127 then ([b i], 1, true)
  else (bytesAt b i (pointN (fun j => b (i + j)) (sz - i)).1, (pointN (fun j => b (i + j)) (sz - i)).1, (pointN (fun j => b (i + j)) (sz - i)).2)
def scanP (b : Nat → Nat) (sz : Nat) : Nat → Nat → List Nat → Except Nat (List Nat × Nat)
  | 0, _, _ => .error sz
  | f + 1, i, t => if sz ≤ i then .error sz else if b i = 34 then .ok (t, i + 1) else if (pieceN b sz i).2.2 = false then .error (i + (pieceN b sz i).2.1) else scanP b sz f (i + (pieceN b sz i).2.1) (t ++ (pieceN b sz i).1)
def scanQ (s : ByteArray) (a : Nat) : Except Nat (List Nat × Nat) := if s.size ≤ a ∨ bt s a ≠ 34 then .error a else scanP (bt s) s.size (s.size + 20) (a + 1) []
def ScanPost (w : World) (a : Nat → Addr) (R : Except Nat (List Nat × Nat)) (e : Ending) (w' : World) : Prop :=
  Below w.heap.size w w' ∧ match R with
  | .ok (t, n) => e = .returned (.tuple #[.string (strOf t), .int .i64 n, .nilIface])
  | .error i => ∃ g, e = .returned (.tuple #[.string ⟨#[]⟩, .int .i64 0, .iface 66 (.pointer (some ⟨g, 0, none⟩))]) ∧ FaultB w' g (a 2) i
end Go.Proofs.YtiignmjglihbnaaDoor
