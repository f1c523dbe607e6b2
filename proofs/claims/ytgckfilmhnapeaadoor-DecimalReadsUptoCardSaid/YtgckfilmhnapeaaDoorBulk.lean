/- What the bound of an '..UptoSaid' gives: lengths of slices and strings. -/
import Derived.Test.YtgckfilmhnapeaaDoorRows
namespace Go.Proofs.YtgckfilmhnapeaaDoor
open Go

theorem bulk_pos {H : Type} (d : DataW H) : 0 < Rows.uptoBulk d := by
  cases d with
  | lit l => cases l <;> simp [Rows.uptoBulk]
  | _ => simp [Rows.uptoBulk]
theorem bulk_count {H : Type} : ∀ l : List (DataW H), l.length ≤ Rows.uptoBulkAll l
  | [] => by simp [Rows.uptoBulkAll]
  | d :: l => by
    have h1 := bulk_pos d
    have h2 := bulk_count l
    simp only [Rows.uptoBulkAll, List.length_cons]
    omega
theorem bulk_mem {H : Type} : ∀ {l : List (DataW H)} {d : DataW H}, d ∈ l → Rows.uptoBulk d ≤ Rows.uptoBulkAll l
  | x :: l, d, h => by
    simp only [Rows.uptoBulkAll]
    rcases List.mem_cons.1 h with rfl | h
    · omega
    · have := bulk_mem h
      omega
theorem bulk_slice {H : Type} (l r : List (DataW H)) : l.length + r.length < Rows.uptoBulk (.slice l r) := by
  have h1 := bulk_count l
  have h2 := bulk_count r
  simp only [Rows.uptoBulk]
  omega
theorem bulk_string {H : Type} (s : List UInt8) : s.length < Rows.uptoBulk (DataW.lit (H := H) (.string s)) := by
  simp [Rows.uptoBulk]
theorem bulk_bound {H : Type} {l : List (DataW H)} (hk : Rows.uptoSmall H l = true) {d : DataW H} (hd : d ∈ l) : Rows.uptoBulk d ≤ 1048576 := by
  have h : Rows.uptoBulkAll l ≤ 1048576 := of_decide_eq_true hk
  exact Nat.le_trans (bulk_mem hd) h
end Go.Proofs.YtgckfilmhnapeaaDoor
