/- Reading keeps the order: the plain law. -/
import Derived.Test.YtgckfilmhnapeaaGreatDoorXv
import Derived.Test.YtgckfilmhnapeaaGreatDoorLr
namespace Go.Proofs.YtgckfilmhnapeaaGreatDoor
open Go.RowKit Go.Lib
set_option linter.unusedVariables false

theorem ten_split (k : Int) (E : Nat) (h : 0 ≤ k + E) : 10 ^ (k + E).toNat * 10 ^ (-k).toNat = 10 ^ k.toNat * 10 ^ E := by
  rw [← Nat.pow_add, ← Nat.pow_add]
  congr 1
  omega
theorem rd_mono {f l W : Nat} {a b : ByteArray} {p q : Int} {s t : Nat} (E : Nat) (ha : 0 ≤ p - a.size + E) (hb : 0 ≤ q - b.size + E)
    (h : RdSpec f l W (nval a.data.toList) (p - a.data.toList.length) s) (g : RdSpec f l W (nval b.data.toList) (q - b.data.toList.length) t) (hv : val a p E ≤ val b q E) : s ≤ t := by
  rw [bytes_len] at h g
  refine Near.mono h g (ten_pos _) (ten_pos _) ?_
  unfold val at hv
  have ea := ten_split (p - a.size) E ha
  have eb := ten_split (q - b.size) E hb
  generalize (p - a.size : Int) = k at *
  generalize (q - b.size : Int) = j at *
  generalize nval a.data.toList = N at *
  generalize nval b.data.toList = M at *
  apply Nat.le_of_mul_le_mul_right _ (ten_pos E)
  have h1 := Nat.mul_le_mul_right (10 ^ (-k).toNat * 10 ^ (-j).toNat * 2 ^ l) hv
  have e1 : N * 10 ^ (k + E).toNat * (10 ^ (-k).toNat * 10 ^ (-j).toNat * 2 ^ l) = N * 10 ^ k.toNat * 2 ^ l * 10 ^ (-j).toNat * 10 ^ E := by
    rw [Nat.mul_assoc N, ← Nat.mul_assoc (10 ^ (k + E).toNat), ← Nat.mul_assoc (10 ^ (k + E).toNat), ea]
    simp only [Nat.mul_assoc, Nat.mul_comm, Nat.mul_left_comm]
  have e2 : M * 10 ^ (j + E).toNat * (10 ^ (-k).toNat * 10 ^ (-j).toNat * 2 ^ l) = M * 10 ^ j.toNat * 2 ^ l * 10 ^ (-k).toNat * 10 ^ E := by
    rw [Nat.mul_comm (10 ^ (-k).toNat), Nat.mul_assoc M, ← Nat.mul_assoc (10 ^ (j + E).toNat), ← Nat.mul_assoc (10 ^ (j + E).toNat), eb]
    simp only [Nat.mul_assoc, Nat.mul_comm, Nat.mul_left_comm]
  rw [e1, e2] at h1
  exact h1
theorem rd_nil {f l W : Nat} {a : ByteArray} {p : Int} {s E : Nat} (h : RdSpec f l W (nval a.data.toList) (p - a.data.toList.length) s) (hv : val a p E = 0) : s = 0 := by
  have h0 : nval a.data.toList = 0 := by
    unfold val at hv
    rcases Nat.mul_eq_zero.1 hv with g | g
    · exact g
    · have := ten_pos (p - a.size + E).toNat
      omega
  rw [h0] at h
  exact h.unique (rd_none f l W _)
/-- of two decimal numbers the lower one's pattern is not above the other one's -/
theorem rises_law {f l W : Nat} {na nb : Bool} {a b : ByteArray} {p q : Int} {s t : Nat} (hf : bothB a b = true) (sa : a.size ≤ 1099511627776) (sb : b.size ≤ 1099511627776)
    (h : RdSpec f l W (nval a.data.toList) (p - a.data.toList.length) s) (g : RdSpec f l W (nval b.data.toList) (q - b.data.toList.length) t) :
    (cmpV na a p nb b q < 0 → sgn (ssz na s - ssz nb t) ≤ 0) ∧ (0 < cmpV na a p nb b q → 0 ≤ sgn (ssz na s - ssz nb t)) ∧ (cmpV na a p nb b q = 0 → sgn (ssz na s - ssz nb t) = 0) := by
  obtain ⟨E1, h1⟩ := places a p
  obtain ⟨E2, h2⟩ := places b q
  have ea := h1 (E1 + E2) (by omega)
  have eb := h2 (E1 + E2) (by omega)
  generalize E1 + E2 = E at *
  rw [cmpV_val na nb a b p q E hf sa sb ea eb]
  have m1 := rd_mono E ea eb h g
  have m2 := rd_mono E eb ea g h
  have z1 := rd_nil (E := E) h
  have z2 := rd_nil (E := E) g
  clear h1 h2 h g hf ea eb
  unfold sval ssz sgn
  generalize val a p E = x at *
  generalize val b q E = y at *
  have hs : (s : Int) ≤ t ∨ y < x := by
    by_cases h : x ≤ y
    · have := m1 h; omega
    · omega
  have ht : (t : Int) ≤ s ∨ x < y := by
    by_cases h : y ≤ x
    · have := m2 h; omega
    · omega
  have hz1 : (s : Int) = 0 ∨ (x : Int) ≠ 0 := by
    by_cases h : x = 0
    · have := z1 h; omega
    · omega
  have hz2 : (t : Int) = 0 ∨ (y : Int) ≠ 0 := by
    by_cases h : y = 0
    · have := z2 h; omega
    · omega
  clear m1 m2 z1 z2
  cases na <;> cases nb <;> simp only [Bool.false_eq_true, if_false, if_true] <;> refine ⟨?_, ?_, ?_⟩ <;> repeat' split
  all_goals omega
end Go.Proofs.YtgckfilmhnapeaaGreatDoor
