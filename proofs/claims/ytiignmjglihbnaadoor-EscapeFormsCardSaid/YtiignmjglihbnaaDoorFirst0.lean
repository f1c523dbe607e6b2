/- The plain law of utf.First: the length of an encoding. -/
import Derived.Test.YtiignmjglihbnaaDoorUtf
namespace Go.Proofs.YtiignmjglihbnaaDoor
open Go.RowKit

def loB (c : Nat) : Nat := if c = 224 then 160 else if c = 240 then 144 else 128
def hiB (c : Nat) : Nat := if c = 237 then 159 else if c = 244 then 143 else 191
/-- how many bytes the code point's encoding at a place has; 0: none stands there -/
def nx (b : Nat → Nat) (i : Nat) : Nat :=
  if b i < 128 then 1
  else if 194 ≤ b i ∧ b i < 224 then (if cont (b (i + 1)) = true then 2 else 0)
  else if 224 ≤ b i ∧ b i < 240 then (if (loB (b i) ≤ b (i + 1) ∧ b (i + 1) ≤ hiB (b i)) ∧ cont (b (i + 2)) = true then 3 else 0)
  else if 240 ≤ b i ∧ b i < 245 then (if (loB (b i) ≤ b (i + 1) ∧ b (i + 1) ≤ hiB (b i)) ∧ cont (b (i + 2)) = true ∧ cont (b (i + 3)) = true then 4 else 0)
  else 0
theorem nx_le (b : Nat → Nat) (i : Nat) : nx b i ≤ 4 := by
  unfold nx
  repeat' split
  all_goals omega

def racc (b : Nat → Nat) (i r0 : Nat) : Nat → Nat
  | 0 => r0
  | m + 1 => racc b i r0 m * 64 + (b (i + 1 + m) - 128)
def FirstPost (b : Nat → Nat) (i : Nat) (w : World) (e : Ending) (w' : World) : Prop :=
  ∃ r : Nat, e = .returned (.tuple #[.int .i32 r, .int .i64 (nx b i), .bool (nx b i != 0)]) ∧ w = w'
theorem first_out {b : Nat → Nat} {i n : Nat} {w w' : World} {e : Ending} (hn : nx b i = n) (r : Nat) (h : e = .returned (.tuple #[.int .i32 r, .int .i64 n, .bool (n != 0)])) (hw : w = w') : FirstPost b i w e w' := ⟨r, by rw [hn]; exact h, hw⟩
def FRel (b : Nat → Nat) (i r0 n : Nat) (w : World) (v4 v5 v9 : Value) (wr : World) : Prop :=
  ∃ m : Nat, m + 1 ≤ n ∧ v9 = .int .i64 ((m + 1 : Nat) : Int) ∧ v5 = .int .i64 n ∧ v4 = .int .i32 (racc b i r0 m : Nat) ∧ racc b i r0 m < 32 * 64 ^ m ∧ (∀ t, t < m → cont (b (i + 1 + t)) = true) ∧ w = wr

theorem cont_iff (c : Nat) : cont c = true ↔ 128 ≤ c ∧ c < 192 := by unfold cont; exact decide_eq_true_iff
theorem pt_iff (r : Nat) : isPt r = true ↔ r ≤ 1114111 ∧ (r < 55296 ∨ 57343 < r) := by unfold isPt; exact decide_eq_true_iff

theorem nx2 (b : Nat → Nat) (i : Nat) (h1 : 192 ≤ b i) (h2 : b i < 224) (hc : cont (b (i + 1)) = true) : nx b i = if racc b i (b i - 192) 1 < 128 ∨ isPt (racc b i (b i - 192) 1) = false then 0 else 2 := by
  have e : racc b i (b i - 192) 1 = (b i - 192) * 64 + (b (i + 1) - 128) := rfl
  rw [e]
  have g := (cont_iff _).1 hc
  unfold nx
  rw [if_neg (by omega)]
  have hp : isPt ((b i - 192) * 64 + (b (i + 1) - 128)) = true := (pt_iff _).2 (by omega)
  rw [hp]
  by_cases h : 194 ≤ b i
  · rw [if_pos ⟨h, h2⟩, if_pos hc, if_neg (by simp; omega)]
  · rw [if_neg (by omega), if_neg (by omega), if_neg (by omega), if_pos (by left; omega)]
theorem nx2n (b : Nat → Nat) (i : Nat) (h1 : 192 ≤ b i) (h2 : b i < 224) (hc : cont (b (i + 1)) = false) : nx b i = 0 := by
  unfold nx
  rw [if_neg (by omega), hc]
  by_cases h : 194 ≤ b i
  · rw [if_pos ⟨h, h2⟩]; rfl
  · rw [if_neg (by omega), if_neg (by omega), if_neg (by omega)]
theorem lo_le (c d : Nat) : loB c ≤ d ↔ (c = 224 → 160 ≤ d) ∧ (c = 240 → 144 ≤ d) ∧ 128 ≤ d := by
  unfold loB
  by_cases h : c = 224
  · subst h; simp; omega
  · rw [if_neg h]
    by_cases g : c = 240
    · subst g; simp; omega
    · rw [if_neg g]; omega
theorem hi_le (c d : Nat) : d ≤ hiB c ↔ (c = 237 → d ≤ 159) ∧ (c = 244 → d ≤ 143) ∧ d ≤ 191 := by
  unfold hiB
  by_cases h : c = 237
  · subst h; simp; omega
  · rw [if_neg h]
    by_cases g : c = 244
    · subst g; simp; omega
    · rw [if_neg g]; omega
theorem pt_not (r : Nat) : isPt r = false ↔ ¬ (r ≤ 1114111 ∧ (r < 55296 ∨ 57343 < r)) := by
  rw [← pt_iff]; simp
theorem nx3 (b : Nat → Nat) (i : Nat) (h1 : 224 ≤ b i) (h2 : b i < 240) (hc : cont (b (i + 1)) = true) (hd : cont (b (i + 2)) = true) : nx b i = if racc b i (b i - 224) 2 < 2048 ∨ isPt (racc b i (b i - 224) 2) = false then 0 else 3 := by
  have e : racc b i (b i - 224) 2 = ((b i - 224) * 64 + (b (i + 1) - 128)) * 64 + (b (i + 2) - 128) := rfl
  rw [e]
  have g := (cont_iff _).1 hc
  have g2 := (cont_iff _).1 hd
  unfold nx
  rw [if_neg (by omega), if_neg (by omega), if_pos ⟨h1, h2⟩, hd]
  have L := lo_le (b i) (b (i + 1))
  have H := hi_le (b i) (b (i + 1))
  have P := pt_not (((b i - 224) * 64 + (b (i + 1) - 128)) * 64 + (b (i + 2) - 128))
  by_cases q : loB (b i) ≤ b (i + 1) ∧ b (i + 1) ≤ hiB (b i)
  · rw [if_pos ⟨q, rfl⟩, if_neg]
    rintro (k | k)
    · omega
    · have := P.1 k; omega
  · rw [if_neg (fun k => q k.1), if_pos]
    by_cases k : ((b i - 224) * 64 + (b (i + 1) - 128)) * 64 + (b (i + 2) - 128) < 2048
    · exact Or.inl k
    · exact Or.inr (P.2 (by omega))
theorem nx3n (b : Nat → Nat) (i : Nat) (h1 : 224 ≤ b i) (h2 : b i < 240) (hc : cont (b (i + 1)) = false ∨ cont (b (i + 2)) = false) : nx b i = 0 := by
  unfold nx
  rw [if_neg (by omega), if_neg (by omega), if_pos ⟨h1, h2⟩, if_neg]
  rw [lo_le, hi_le]
  rintro ⟨⟨k1, k2⟩, k3⟩
  rcases hc with hc | hc
  · rw [(cont_iff _).2 (by omega)] at hc; cases hc
  · rw [hc] at k3; cases k3
theorem nx4 (b : Nat → Nat) (i : Nat) (h1 : 240 ≤ b i) (h2 : b i < 248) (hc : cont (b (i + 1)) = true) (hd : cont (b (i + 2)) = true) (he : cont (b (i + 3)) = true) : nx b i = if racc b i (b i - 240) 3 < 65536 ∨ isPt (racc b i (b i - 240) 3) = false then 0 else 4 := by
  have e : racc b i (b i - 240) 3 = (((b i - 240) * 64 + (b (i + 1) - 128)) * 64 + (b (i + 2) - 128)) * 64 + (b (i + 3) - 128) := rfl
  rw [e]
  have g := (cont_iff _).1 hc
  have g2 := (cont_iff _).1 hd
  have g3 := (cont_iff _).1 he
  unfold nx
  rw [if_neg (by omega), if_neg (by omega), if_neg (by omega), hd, he]
  have L := lo_le (b i) (b (i + 1))
  have H := hi_le (b i) (b (i + 1))
  generalize hr : (((b i - 240) * 64 + (b (i + 1) - 128)) * 64 + (b (i + 2) - 128)) * 64 + (b (i + 3) - 128) = r
  have P := pt_not r
  by_cases q1 : 240 ≤ b i ∧ b i < 245
  · rw [if_pos q1]
    by_cases q : loB (b i) ≤ b (i + 1) ∧ b (i + 1) ≤ hiB (b i)
    · rw [if_pos ⟨q, rfl, rfl⟩, if_neg]
      rintro (k | k)
      · omega
      · have := P.1 k; omega
    · rw [if_neg (fun k => q k.1), if_pos]
      by_cases k : r < 65536
      · exact Or.inl k
      · exact Or.inr (P.2 (by omega))
  · rw [if_neg q1, if_pos (Or.inr (P.2 (by omega)))]
theorem nx4n (b : Nat → Nat) (i : Nat) (h1 : 240 ≤ b i) (hc : cont (b (i + 1)) = false ∨ cont (b (i + 2)) = false ∨ cont (b (i + 3)) = false) : nx b i = 0 := by
  unfold nx
  rw [if_neg (by omega), if_neg (by omega), if_neg (by omega)]
  split
  · rw [if_neg]
    rw [lo_le, hi_le]
    rintro ⟨⟨k1, k2⟩, k3, k4⟩
    rcases hc with hc | hc | hc
    · rw [(cont_iff _).2 (by omega)] at hc; cases hc
    · rw [hc] at k3; cases k3
    · rw [hc] at k4; cases k4
  · rfl
theorem nx1n (b : Nat → Nat) (i : Nat) (h1 : 128 ≤ b i) (h2 : b i < 192 ∨ 248 ≤ b i) : nx b i = 0 := by
  unfold nx
  rw [if_neg (by omega), if_neg (by omega), if_neg (by omega), if_neg (by omega)]
end Go.Proofs.YtiignmjglihbnaaDoor
