/- Arguments that are slices of bytes or of bools: what they hold. -/
import Derived.Test.YtgckfilmhnapeaaDoorRows
import Derived.Test.YtgckfilmhnapeaaDoorNum
import Derived.Test.YtgckfilmhnapeaaDoorBulk
import Derived.ProofKit
import Derived.OpenShut
import Derived.Carry
import Derived.ChangeSlices
namespace Go.Proofs.YtgckfilmhnapeaaDoor
open Go.RowKit Go.ChangeShapes Go.WideShapes
set_option linter.unusedVariables false

theorem u8_arg {n : Int} (h : (Lit.int .u8 n).wf = true) : ∃ x : Nat, n = (x : Int) ∧ x < 256 := by
  have hmin : IntKind.u8.min = 0 := rfl
  have hmax : IntKind.u8.max = 255 := rfl
  simp only [Lit.wf, Bool.and_eq_true, decide_eq_true_eq, hmin, hmax] at h
  exact ⟨n.toNat, by omega, by omega⟩
theorem open_bytes {H : Type} {enc : TypeId × Value → H} {W : World} {base : Nat} {a : Option Addr} {len cap : Nat} {d : DataW H} {p : List MemPlace}
    (h : DataW.Trod enc Tryd.prog W base (fun _ => true) true 42 (.slice a len cap) d p) :
    ∃ zs : List Nat, zs.length = len ∧ Rd W a (vals .u8 zs) ∧ (∀ z ∈ zs, z < 256) ∧ len ≤ cap ∧ cap ≤ maxLen ∧ zs.length ≤ Rows.uptoBulk d := by
  obtain ⟨fuel, hf⟩ := h
  rcases open_ints Tryd.underlying42 Tryd.underlying5 (by kernel_rfl) hf with ⟨hcs, _⟩ | ⟨a', len', cap', zs, hcs, _, hlc, hcm, hzl, hx, hcell, hwf⟩
  · simp [Value.cells] at hcs
    obtain ⟨rfl, rfl, rfl⟩ := hcs
    exact ⟨[], rfl, Rd.nil, by simp, Nat.le_refl _, Nat.zero_le _, by simp⟩
  · simp [Value.cells] at hcs
    obtain ⟨rfl, rfl, rfl⟩ := hcs
    have hzl' : zs.length = cap := by rw [hzl]; simp
    have hget : ∀ i, i < zs.length → ∃ x : Nat, zs.getD i 0 = (x : Int) ∧ x < 256 := by
      intro i hi
      have hm : zs.getD i 0 ∈ zs := by
        have e : zs.getD i 0 = zs[i] := by simp [hi]
        rw [e]; exact List.getElem_mem hi
      exact u8_arg (hwf _ hm)
    have hbk : (zs.take len).length ≤ Rows.uptoBulk d := by
      have hd := congrArg Prod.fst hx
      simp only [] at hd
      rw [hd]
      have h := bulk_slice (H := H) (lits .u8 (zs.take len)) (lits .u8 (zs.drop len))
      have e : (lits (H := H) .u8 (zs.take len)).length = (zs.take len).length := by simp [lits]
      omega
    refine ⟨(zs.take len).map Int.toNat, by simp; omega, ?_, ?_, hlc, hcm, by rw [List.length_map]; exact hbk⟩
    · intro i hi
      simp [vals] at hi
      have hic : i < zs.length := by omega
      have hc := hcell i hic
      have hc0 := hcell 0 (by omega)
      have hb : a'.block < W.heap.size := by
        rcases Nat.lt_or_ge a'.block W.heap.size with g | g
        · exact g
        · have : W.cell? (a'.add 0) = none := by unfold World.cell?; rw [block_of_add, Array.getElem?_eq_none g]
          rw [this] at hc0; cases hc0
      obtain ⟨b, off, spot⟩ := a'
      have hsp : spot = none := by
        have : (⟨b, off, spot⟩ : Addr).add 0 = ⟨b, off, spot⟩ := by simp [Addr.add]
        rw [this] at hc0
        exact World.cell?_spot hc0
      subst hsp
      refine ⟨b, off, rfl, hb, ?_⟩
      have e : (⟨b, off, none⟩ : Addr).add i = ⟨b, off + i, none⟩ := by
        unfold Addr.add
        by_cases hj : i = 0
        · subst hj; simp
        · simp [hj]
      rw [e] at hc
      obtain ⟨x, hx, hx2⟩ := hget i hic
      rw [hc, hx]
      simp only [vals, List.map_map]
      rw [List.getElem?_map, List.getElem?_take, if_pos (by omega)]
      have e2 : zs[i]? = some (zs.getD i 0) := by simp [hic]
      rw [e2, hx]
      simp
    · intro z hz
      simp only [List.mem_map] at hz
      obtain ⟨y, hy, rfl⟩ := hz
      obtain ⟨x, hx, hx2⟩ := u8_arg (hwf y (List.mem_of_mem_take hy))
      omega
end Go.Proofs.YtgckfilmhnapeaaDoor
