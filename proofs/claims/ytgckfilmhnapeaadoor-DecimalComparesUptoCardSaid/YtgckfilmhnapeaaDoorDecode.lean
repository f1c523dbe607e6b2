/- A byte from 128 on begins no code point below 128, whatever stands behind it. -/
import Derived.Laws.RangeString
namespace Go.Proofs.YtgckfilmhnapeaaDoor
theorem decode_hi (s : ByteArray) (i : Nat) (h : 128 ≤ (s.get! (i + 0)).toNat) : 128 ≤ (Utf8.decode s i).1 := by
  unfold Utf8.decode
  simp only []
  rw [if_neg (by omega)]
  split
  · split
    · rename_i h1; exact h1
    · decide
  split
  · split
    · rename_i h1
      simp only [Bool.and_eq_true, decide_eq_true_eq] at h1
      omega
    · decide
  split
  · split
    · rename_i h1
      simp only [Bool.and_eq_true, decide_eq_true_eq] at h1
      omega
    · decide
  · decide
end Go.Proofs.YtgckfilmhnapeaaDoor
