/- Bytes as a string; a row of bytes turned around. -/
import Derived.Test.YtgckfilmhnapeaaDoorQDiv
import Derived.Test.YtgckfilmhnapeaaDoorShelfR
import Derived.Laws.IdiomStrings
import Derived.Sort.OwnSortedInts
namespace Go.Proofs.YtgckfilmhnapeaaDoor
open Go.RowKit
set_option linter.unusedVariables false

/-- bytes as a string -/
def strOf (xs : List Nat) : ByteArray := ⟨(xs.map UInt8.ofNat).toArray⟩
theorem row_string {w : World} {base n : Nat} {e : TypeId} {A : Option Addr} {c : Nat} {xs : List Nat} (hx : ∀ x ∈ xs, x < 256) (hn : xs.length = n) (h : w.ownsRow base e 1 (.slice A n c) n (vals .u8 xs)) (h0 : 0 < n) :
    (convert 42 9 (.slice A n c)).run Tryd.prog w = .ok (.string (strOf xs)) w := by
  subst hn
  rcases h.2 with ⟨h1, h2⟩ | ⟨g, cap, cur, he, h1, h2, h3, _, h5, h6⟩
  · omega
  · obtain ⟨rfl, -, rfl⟩ := Value.slice.inj he
    have := run_convert_bytes_back (P := Tryd.prog) w 42 9 5 ⟨g, 0, none⟩ c (xs.map UInt8.ofNat) Tryd.underlying42 Tryd.underlying5 Tryd.underlying9 (by
      intro j hj
      rw [List.length_map] at hj
      have hu := vals_get .u8 xs j hj
      rw [← h6, List.getElem?_take_of_lt (by omega)] at hu
      have hc : w.cell? ((⟨g, 0, none⟩ : Addr).add j) = cur[j]? := by
        have : (⟨g, 0, none⟩ : Addr).add j = ⟨g, j, none⟩ := by
          unfold Addr.add
          by_cases q : j = 0
          · subst q; rfl
          · simp [q]
        rw [this]; exact cell_of_row w g j cur e (0, 0) h2
      rw [hc, ← Array.getElem?_toList, hu]
      have hl : xs[j] < 256 := hx _ (List.getElem_mem hj)
      simp [hj]
      omega)
    rw [List.length_map] at this
    exact this
open Go.Sort Go.ChangeShapes Go.WideShapes
theorem holds_of_blockB {w : World} {g : Nat} {cur : Array Value} {e : TypeId} {ss : List Nat} (hb : w.heap[g]? = some (.cells cur e (0, 0))) (ht : cur.toList.take ss.length = ss.map (fun (x : Nat) => Value.int .u8 (x : Int))) : Holds (fun (x : Nat) => Value.int .u8 (x : Int)) w g 0 ss.toArray := by
  intro j hj
  have hj' : j < ss.length := by simpa using hj
  refine ⟨?_, by simp [World.frozen?, hb]⟩
  have h1 : (cur.toList.take ss.length)[j]? = (ss.map (fun (x : Nat) => Value.int .u8 (x : Int)))[j]? := by rw [ht]
  rw [List.getElem?_take_of_lt hj'] at h1
  simp only [World.cell?, hb, Nat.zero_add]
  simp only [Option.isSome_none, Bool.false_eq_true, if_false]
  rw [← Array.getElem?_toList, h1]
  simp [hj']
theorem heap_rev {w : World} {g n : Nat} {cur : Array Value} {e : TypeId} {fr : Nat × Nat} (d : Array Nat) (hb : w.heap[g]? = some (.cells cur e fr)) :
    (putRow (fun (x : Nat) => Value.int .u8 (x : Int)) (Sort.ahead w n) g 0 d).heap[g]? = some (.cells (putCells (fun (x : Nat) => Value.int .u8 (x : Int)) 0 d cur) e fr) := by
  simp [putRow, mapBlock, Sort.ahead, Array.getElem?_modify, hb, onCells]
theorem grown_rev {w : World} {g n : Nat} (d : Array Nat) : w.grownBy (putRow (fun (x : Nat) => Value.int .u8 (x : Int)) (Sort.ahead w n) g 0 d) (some g) := by
  refine ⟨rfl, rfl, rfl, by simp [putRow, mapBlock, Sort.ahead], fun k hk hne => ?_⟩
  have : g ≠ k := fun e => hne (by rw [e])
  simp [putRow, mapBlock, Sort.ahead, Array.getElem?_modify, this]
theorem take_putCellsB (cur : Array Value) (ts : List Nat) (h : ts.length ≤ cur.size) : (putCells (fun (x : Nat) => Value.int .u8 (x : Int)) 0 ts.toArray cur).toList.take ts.length = ts.map (fun (x : Nat) => Value.int .u8 (x : Int)) := by
  apply List.ext_getElem?
  intro j
  by_cases hj : j < ts.length
  · rw [List.getElem?_take_of_lt hj, Array.getElem?_toList]
    simp [putCells, hj, show j < cur.size by omega]
  · rw [List.getElem?_take_eq_none (by omega), List.getElem?_eq_none (by simp; omega)]
/-- slices.Reverse of a row of bytes of the call's own -/
theorem reverse_any {w : World} {base g n c : Nat} {e : TypeId} {xs : List Nat} (h : w.ownsRow base e 1 (.slice (some ⟨g, 0, none⟩) n c) n (vals .u8 xs)) (hn : xs.length = n) (hm : n ≤ 9223372036854775807) :
    Calls Tryd.prog 109 #[.slice (some ⟨g, 0, none⟩) n c] w fun e' w' => e' = .returned (.tuple #[]) ∧ w'.ownsRow base e 1 (.slice (some ⟨g, 0, none⟩) n c) n (vals .u8 xs.reverse) ∧ w.grownBy w' (some g) := by
  subst hn
  rcases h.2 with ⟨h1, h2⟩ | ⟨g', cap, cur, he, h1, h2, h3, h4, h5, h6⟩
  · cases h1
  · obtain ⟨he1, -, rfl⟩ := Value.slice.inj he
    injection he1 with he1
    injection he1 with he1
    subst he1
    rw [Nat.mul_one] at h5 h6
    have hH : Holds (fun (x : Nat) => Value.int .u8 (x : Int)) w g 0 xs.toArray := holds_of_blockB h2 h6
    refine (Tryd.slices_Reverse_byte (fun (x : Nat) => Value.int .u8 (x : Int)) (fun _ => rfl) g 0 c xs w hH hm).mono ?_
    rintro e' w' ⟨rfl, n, rfl⟩
    refine ⟨rfl, ?_, grown_rev _⟩
    have hl : xs.reverse.length = xs.length := List.length_reverse
    refine ⟨by rw [vals_length, hl, Nat.mul_one], .inr ⟨g, c, _, rfl, h1, heap_rev _ h2, h3, h4, by simp [putCells, h5], ?_⟩⟩
    rw [Nat.mul_one, ← hl]
    exact take_putCellsB cur xs.reverse (by rw [hl]; omega)
end Go.Proofs.YtgckfilmhnapeaaDoor
