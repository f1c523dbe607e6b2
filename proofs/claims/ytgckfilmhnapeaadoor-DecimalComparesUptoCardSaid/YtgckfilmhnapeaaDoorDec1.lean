/- Plain words for the digits of a decimal number: is it one, its digits without noughts at both ends, the noughts ahead. -/
import Derived.Lib.TrimByte
import Derived.Lib.Bytealg
import Derived.Lib.Small
namespace Go.Proofs.YtgckfilmhnapeaaDoor
open Go.Lib

def dgB (c : UInt8) : Bool := decide (48 ≤ c.toNat) && decide (c.toNat ≤ 57)
def fineL (l : List UInt8) : Bool := l.all dgB
def fineB (s : ByteArray) : Bool := fineL s.data.toList
def plainL (l : List UInt8) : List UInt8 := trimRightB (trimLeftB l 48) 48
def plainS (s : ByteArray) : ByteArray := ⟨(plainL s.data.toList).toArray⟩
def leadL (l : List UInt8) : Nat := l.length - (trimLeftB l 48).length

theorem fine_take_zero (l : List UInt8) : fineL (l.take 0) = true := rfl
theorem fine_take_succ (l : List UInt8) (k : Nat) (h : k < l.length) (h1 : fineL (l.take k) = true) (h2 : 48 ≤ (l[k]).toNat) (h3 : (l[k]).toNat ≤ 57) : fineL (l.take (k + 1)) = true := by
  unfold fineL at *
  rw [List.take_succ_eq_append_getElem h, List.all_append, h1]
  simp [dgB, h2, h3]
theorem fine_no (l : List UInt8) (k : Nat) (h : k < l.length) (h2 : (l[k]).toNat < 48 ∨ 57 < (l[k]).toNat) : fineL l = false := by
  unfold fineL
  rw [List.all_eq_false]
  refine ⟨l[k], List.getElem_mem h, ?_⟩
  unfold dgB
  rcases h2 with h2 | h2
  · rw [decide_eq_false (show ¬ 48 ≤ (l[k]).toNat by omega)]; simp
  · rw [decide_eq_false (show ¬ (l[k]).toNat ≤ 57 by omega)]; simp
theorem fine_full (l : List UInt8) (h : fineL (l.take l.length) = true) : fineL l = true := by rwa [List.take_length] at h

theorem trimLeft_len (l : List UInt8) : (trimLeftB l 48).length ≤ l.length := by
  unfold trimLeftB
  exact (List.dropWhile_sublist _).length_le
theorem trimRight_len (l : List UInt8) : (trimRightB l 48).length ≤ l.length := by
  unfold trimRightB
  rw [List.length_reverse]
  have := (List.dropWhile_sublist (p := (· == (48 : UInt8))) (l := l.reverse)).length_le
  rw [List.length_reverse] at this
  exact this
theorem plain_len (l : List UInt8) : (plainL l).length ≤ l.length := Nat.le_trans (trimRight_len _) (trimLeft_len _)
theorem lead_le (l : List UInt8) : leadL l ≤ l.length := Nat.sub_le _ _
theorem plainS_size (s : ByteArray) : (plainS s).size ≤ s.size := by
  unfold plainS
  rw [size_mk]
  have := plain_len s.data.toList
  have e : s.data.toList.length = s.size := by rw [Array.length_toList]; rfl
  omega

/-- the walk by hand: n noughts ahead, from place m on noughts alone -/
theorem plain_of (s : ByteArray) (n m : Nat) (hn : n ≤ m) (hm : m ≤ s.size) (h1 : ∀ j, (h : j < s.size) → j < n → s[j] = 48) (h2 : (h : n < s.size) → s[n] ≠ 48)
    (h3 : ∀ j, (h : j < s.size) → m ≤ j → s[j] = 48) (h4 : n < m → (h : m - 1 < s.size) → s[m - 1] ≠ 48) :
    s.extract n m = plainS s ∧ leadL s.data.toList = n := by
  have e : s.data.toList.length = s.size := by rw [Array.length_toList]; rfl
  have gt : ∀ (j : Nat) (h : j < s.size), s.data.toList[j]? = some s[j] := fun j h => by
    rw [List.getElem?_eq_getElem (by omega)]; rfl
  have tl : trimLeftB s.data.toList 48 = s.data.toList.drop n := by
    refine trimLeftB_drop _ 48 n (by omega) (fun j b hj hb => ?_) (fun b hb => ?_)
    · rw [gt j (by omega)] at hb
      injection hb with hb
      rw [← hb]; exact h1 j (by omega) hj
    · have hlt : n < s.size := by
        have := (List.getElem?_eq_some_iff.1 hb).1
        omega
      rw [gt n hlt] at hb
      injection hb with hb
      rw [← hb]; exact h2 hlt
  refine ⟨?_, by unfold leadL; rw [tl, List.length_drop]; omega⟩
  unfold plainS plainL
  rw [tl, trimRightB_take _ 48 (m - n) (by rw [List.length_drop]; omega) (fun j b hj hb => ?_) (fun b h0 hb => ?_)]
  · rw [extract_eq]
  · rw [List.getElem?_drop] at hb
    have hlt : n + j < s.size := by
      have := (List.getElem?_eq_some_iff.1 hb).1
      omega
    rw [gt _ hlt] at hb
    injection hb with hb
    rw [← hb]; exact h3 _ hlt (by omega)
  · rw [List.getElem?_drop] at hb
    have hlt : n + (m - n - 1) < s.size := by
      have := (List.getElem?_eq_some_iff.1 hb).1
      omega
    rw [gt _ hlt] at hb
    injection hb with hb
    have e2 : n + (m - n - 1) = m - 1 := by omega
    rw [← hb]
    have := h4 (by omega) (by omega)
    simpa only [e2] using this

/-- the digits against each other, as the reference asks it -/
theorem compare_ref (a b : List UInt8) : compareBytes a b = (if a = b then 0 else if a < b then -1 else 1) := by
  induction a generalizing b with
  | nil => cases b with
    | nil => rfl
    | cons y b => simp [compareBytes]
  | cons x a ih =>
    cases b with
    | nil => simp [compareBytes]
    | cons y b =>
      unfold compareBytes
      rw [ih b]
      by_cases h1 : x < y
      · rw [if_pos h1, if_neg (by rintro h; injection h with h _; subst h; exact absurd h1 (UInt8.lt_irrefl _)), if_pos (List.cons_lt_cons_iff.2 (.inl h1))]
      · rw [if_neg h1]
        by_cases h2 : y < x
        · rw [if_pos h2, if_neg (by rintro h; injection h with h _; subst h; exact absurd h2 (UInt8.lt_irrefl _)), if_neg]
          rw [List.cons_lt_cons_iff]
          rintro (h | ⟨h, -⟩)
          · exact absurd h h1
          · subst h; exact absurd h2 (UInt8.lt_irrefl _)
        · obtain rfl : x = y := by
            rw [UInt8.lt_iff_toNat_lt] at h1 h2
            exact UInt8.toNat_inj.1 (by omega)
          rw [if_neg h2]
          simp
theorem compare_neg (a b : List UInt8) : compareBytes b a = - compareBytes a b := by
  induction a generalizing b with
  | nil => cases b <;> simp [compareBytes]
  | cons x a ih =>
    cases b with
    | nil => simp [compareBytes]
    | cons y b =>
      unfold compareBytes
      rw [ih b]
      by_cases h1 : x < y
      · have h2 : ¬ y < x := by rw [UInt8.lt_iff_toNat_lt] at *; omega
        rw [if_neg h2, if_pos h1, if_pos h1]; rfl
      · rw [if_neg h1]
        by_cases h2 : y < x
        · rw [if_pos h2, if_pos h2, if_neg h1]
        · rw [if_neg h2, if_neg h2, if_neg h1]
end Go.Proofs.YtgckfilmhnapeaaDoor
