/- Arguments that are slices of bools: what they hold. -/
import Derived.Test.YtjfeebbhkolmoaaDoorOpenB
import Derived.Deep.Grids
namespace Go.Proofs.YtjfeebbhkolmoaaDoor
open Go.RowKit Go.ChangeShapes Go.WideShapes Go.Deep
set_option linter.unusedVariables false

def bvals (ks : List Bool) : List Value := ks.map .bool
theorem bvals_length (ks : List Bool) : (bvals ks).length = ks.length := by simp [bvals]
theorem bvals_get (ks : List Bool) (i : Nat) (h : i < ks.length) : (bvals ks)[i]? = some (.bool ks[i]) := by simp [bvals, h]
theorem open_bools' {H : Type} {enc : TypeId × Value → H} {W : World} {base : Nat} {a : Option Addr} {len cap : Nat} {d : DataW H} {p : List MemPlace}
    (h : DataW.Trod enc Tryd.prog W base (fun _ => true) true 60 (.slice a len cap) d p) :
    ∃ ks : List Bool, ks.length = len ∧ Rd W a (bvals ks) ∧ ks.length ≤ Rows.uptoBulk d := by
  obtain ⟨fuel, hf⟩ := h
  rcases open_bools Tryd.underlying60 Tryd.underlying4 (by kernel_rfl) hf with ⟨hcs, _⟩ | ⟨a', len', cap', B, hcs, _, hlc, hcm, hx, hcell⟩
  · simp [Value.cells] at hcs
    obtain ⟨rfl, rfl, rfl⟩ := hcs
    exact ⟨[], rfl, Rd.nil, by simp⟩
  · simp [Value.cells] at hcs
    obtain ⟨rfl, rfl, rfl⟩ := hcs
    refine ⟨(List.range len).map B, by simp, ?_, ?_⟩
    · intro i hi
      simp [bvals] at hi
      have hc := hcell i (by omega)
      have hc0 := hcell 0 (by omega)
      have hb : a'.block < W.heap.size := by
        rcases Nat.lt_or_ge a'.block W.heap.size with g | g
        · exact g
        · have : W.cell? (a'.add 0) = none := by unfold World.cell?; rw [block_of_add, Array.getElem?_eq_none g]
          rw [this] at hc0; cases hc0
      obtain ⟨b, off, spot⟩ := a'
      have hsp : spot = none := by
        have : (⟨b, off, spot⟩ : Addr).add 0 = ⟨b, off, spot⟩ := by simp [Addr.add]
        rw [this] at hc0
        exact World.cell?_spot hc0
      subst hsp
      refine ⟨b, off, rfl, hb, ?_⟩
      have e : (⟨b, off, none⟩ : Addr).add i = ⟨b, off + i, none⟩ := by
        unfold Addr.add
        by_cases hj : i = 0
        · subst hj; simp
        · simp [hj]
      rw [e] at hc
      rw [hc]
      simp [bvals, hi]
    · have hd := congrArg Prod.fst hx
      simp only [] at hd
      rw [hd]
      unfold boolRow
      have h := bulk_slice (H := H) ((List.range len).map fun r => DataW.lit (.bool (B r))) ((List.range (cap - len)).map fun j => DataW.lit (.bool (B (len + j))))
      simp at h ⊢
      omega
end Go.Proofs.YtjfeebbhkolmoaaDoor
