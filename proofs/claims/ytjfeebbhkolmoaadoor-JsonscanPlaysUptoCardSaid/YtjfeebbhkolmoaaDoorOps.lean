/- An argument that is a slice of Ops: what it holds. -/
import Derived.Test.YtjfeebbhkolmoaaDoorMem
import Derived.Test.YtjfeebbhkolmoaaDoorBulk
import Derived.Lib.SmallJoins
import Derived.ProofKit
import Derived.OpenShut
import Derived.Carry
namespace Go.Proofs.YtjfeebbhkolmoaaDoor
open Go.RowKit Go.ChangeShapes Go.WideShapes
set_option linter.unusedVariables false

/-- one call, as the statement has it -/
structure OpV where
  kind : Int
  on : Int
  chunk : ByteArray
def sumC (os : List OpV) : Nat := (os.map (·.chunk.size)).sum
theorem sumC_take (os : List OpV) (k : Nat) (h : k < os.length) : sumC (os.take (k + 1)) = sumC (os.take k) + os[k].chunk.size := by
  unfold sumC
  rw [List.take_succ_eq_append_getElem h, List.map_append, List.sum_append]
  simp
theorem sumC_le (os : List OpV) (k : Nat) : sumC (os.take k) ≤ sumC os := by
  unfold sumC
  conv => rhs; rw [← List.take_append_drop k os]
  rw [List.map_append, List.sum_append]
  exact Nat.le_add_right _ _
/-- the slice's address leads to these calls -/
def OpsAt (w : World) (A : Option Addr) (os : List OpV) : Prop :=
  ∀ i (h : i < os.length), ∃ b off, A = some ⟨b, off, none⟩ ∧ b < w.heap.size ∧ w.cell? ⟨b, off + i * 3, none⟩ = some (.int .i64 os[i].kind) ∧ w.cell? ⟨b, off + i * 3 + 1, none⟩ = some (.int .i64 os[i].on) ∧ w.cell? ⟨b, off + i * 3 + 2, none⟩ = some (.string os[i].chunk)
theorem OpsAt.below {w w' : World} {A : Option Addr} {os : List OpV} (h : OpsAt w A os) (hb : Below w.heap.size w w') : OpsAt w' A os := fun i hi => by
  obtain ⟨b, off, h1, h2, h3, h4, h5⟩ := h i hi
  exact ⟨b, off, h1, Nat.lt_of_lt_of_le h2 hb.size, (hb.cell (p := ⟨b, off + i * 3, none⟩) h2).trans h3, (hb.cell (p := ⟨b, off + i * 3 + 1, none⟩) h2).trans h4, (hb.cell (p := ⟨b, off + i * 3 + 2, none⟩) h2).trans h5⟩
theorem bulk_sum {H : Type} (os : List OpV) : sumC os + os.length ≤ Rows.uptoBulkAll (os.map fun o => (DataW.agg [.lit (.int .i64 o.kind), .lit (.int .i64 o.on), .lit (.string o.chunk.data.toList)] : DataW H)) := by
  induction os with
  | nil => simp [sumC]
  | cons o os ih =>
    simp only [List.map_cons, Rows.uptoBulkAll, Rows.uptoBulk, List.length_cons]
    have h1 : sumC (o :: os) = o.chunk.size + sumC os := by simp [sumC]
    have h2 : o.chunk.data.toList.length = o.chunk.size := by rw [Array.length_toList]; rfl
    omega
instance : Inhabited OpV := ⟨⟨0, 0, ⟨#[]⟩⟩⟩
theorem open_ops {H : Type} {enc : TypeId × Value → H} {W : World} {base : Nat} {a : Option Addr} {len cap : Nat} {d : DataW H} {p : List MemPlace}
    (h : DataW.Trod enc Tryd.prog W base (fun _ => true) true 22 (.slice a len cap) d p) :
    ∃ os : List OpV, os.length = len ∧ OpsAt W a os ∧ sumC os + os.length ≤ Rows.uptoBulk d := by
  obtain ⟨fuel, hf⟩ := h
  rcases Str.open_slice_fields Tryd.underlying22 Tryd.underlying31 (by kernel_rfl) (by kernel_rfl) hf with ⟨hcs, _⟩ | ⟨a', len', cap', m, D, Pl, hcs, _, hlc, hcm, hmm, hx, hcell⟩
  · simp [Value.cells] at hcs
    obtain ⟨rfl, rfl, rfl⟩ := hcs
    exact ⟨[], rfl, fun i hi => absurd hi (by simp), by simp [sumC]⟩
  · simp [Value.cells] at hcs
    obtain ⟨rfl, rfl, rfl⟩ := hcs
    have hm : m = cap := by rw [hmm]; rfl
    have each : ∀ i, i < len → ∃ o : OpV, W.cell? (a'.add (i * 3)) = some (.int .i64 o.kind) ∧ W.cell? (a'.add (i * 3 + 1)) = some (.int .i64 o.on) ∧ W.cell? (a'.add (i * 3 + 2)) = some (.string o.chunk) ∧ D i = .agg [.lit (.int .i64 o.kind), .lit (.int .i64 o.on), .lit (.string o.chunk.data.toList)] := by
      intro i hi
      obtain ⟨ys, n, h1, h2, h3, h4⟩ := hcell i (by omega)
      obtain ⟨v0, y0, c0, e0, t0⟩ := h4 0 _ rfl
      obtain ⟨v1, y1, c1, e1, t1⟩ := h4 1 _ rfl
      obtain ⟨v2, y2, c2, e2, t2⟩ := h4 2 _ rfl
      obtain ⟨k0, g0, f0, w0⟩ := DataW.trod_int Tryd.underlying3 t0
      obtain ⟨k1, g1, f1, w1⟩ := DataW.trod_int Tryd.underlying3 t1
      obtain ⟨k2, g2, f2, w2⟩ := DataW.trod_string Tryd.underlying9 t2
      simp at g0 g1 g2
      subst g0 g1 g2
      refine ⟨⟨k0, k1, k2⟩, c0, c1, c2, ?_⟩
      rw [h1]
      have hy : ys = [y0, y1, y2] := by
        match ys, h3, e0, e1, e2 with
        | [z0, z1, z2], _, e0, e1, e2 => simp at e0 e1 e2; simp [e0, e1, e2]
      subst hy
      simp [f0, f1, f2]
    obtain ⟨o, ho⟩ := Go.Deep.choose_lt each
    have hl : ((List.range len).map o).length = len := by simp
    refine ⟨(List.range len).map o, hl, ?_, ?_⟩
    · intro i hi
      rw [hl] at hi
      obtain ⟨c0, c1, c2, -⟩ := ho i hi
      obtain ⟨z0, -, -, -⟩ := ho 0 (by omega)
      rw [show 0 * 3 = 0 from rfl] at z0
      have hb : a'.block < W.heap.size := by
        rcases Nat.lt_or_ge a'.block W.heap.size with g | g
        · exact g
        · have : W.cell? (a'.add 0) = none := by unfold World.cell?; rw [block_of_add, Array.getElem?_eq_none g]
          rw [this] at z0; cases z0
      obtain ⟨b, off, spot⟩ := a'
      have hsp : spot = none := by
        have : (⟨b, off, spot⟩ : Addr).add 0 = ⟨b, off, spot⟩ := by simp [Addr.add]
        rw [this] at z0
        exact World.cell?_spot z0
      subst hsp
      have e : ∀ j, (⟨b, off, none⟩ : Addr).add j = ⟨b, off + j, none⟩ := by
        intro j
        unfold Addr.add
        by_cases hj : j = 0
        · subst hj; simp
        · simp [hj]
      rw [e] at c0 c1 c2
      refine ⟨b, off, rfl, hb, ?_, ?_, ?_⟩
      · simp only [List.getElem_map, List.getElem_range]; exact c0
      · simp only [List.getElem_map, List.getElem_range]; exact c1
      · simp only [List.getElem_map, List.getElem_range]; exact c2
    · have hd := congrArg Prod.fst hx
      simp only [] at hd
      rw [hd]
      have h1 := bulk_sum (H := H) ((List.range len).map o)
      have h2 : ((List.range len).map o).map (fun o => (DataW.agg [.lit (.int .i64 o.kind), .lit (.int .i64 o.on), .lit (.string o.chunk.data.toList)] : DataW H)) = (List.range len).map D := by
        rw [List.map_map]
        refine List.map_congr_left fun i hi => ?_
        exact (ho i (List.mem_range.1 hi)).2.2.2.symm
      rw [h2] at h1
      simp only [Rows.uptoBulk]
      omega
end Go.Proofs.YtjfeebbhkolmoaaDoor
