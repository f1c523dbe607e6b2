/- The tables, out of the row's own list. -/
import Derived.Test.YtgckfilmhnapeaaDoorRows
import Derived.Test.YtgckfilmhnapeaaDoorPnC
import Derived.Lib.LaidTab
import Derived.Deep.Strs
import Derived.Stop.LaidTwo
import Derived.LaidHandle
namespace Go.Proofs.YtgckfilmhnapeaaDoor
open Go.RowKit Go.ChangeShapes Go.WideShapes Go.Lib Go.Deep
set_option linter.unusedVariables false

def shapeD {H : Type} (j : Nat) : DataW H := .agg [.lit (.int .i64 (shpL.getD (j * 3) 0)), .lit (.int .i64 (shpL.getD (j * 3 + 1) 0)), .lit (.int .i64 (shpL.getD (j * 3 + 2) 0))]
theorem shape_elem {H : Type} {enc : TypeId × Value → H} {w : World} {base : Nat} {sp : Nat → Bool} {held : Bool} {fuel : Nat} {cs : List Value} {a b c : Int} {p : List MemPlace}
    (h : DataW.trod enc Tryd.prog w base sp held fuel 121 cs = some (.agg [.lit (.int .i64 a), .lit (.int .i64 b), .lit (.int .i64 c)], p)) : cs[0]? = some (.int .i64 a) ∧ cs[1]? = some (.int .i64 b) ∧ cs[2]? = some (.int .i64 c) := by
  obtain ⟨y0, y1, y2, n, hx, _, h0, h1, h2⟩ := trod_struct3 Tryd.underlying121 h
  obtain ⟨z0, hc0, rfl, _⟩ := DataW.trod_int Tryd.underlying3 h0
  obtain ⟨z1, hc1, rfl, _⟩ := DataW.trod_int Tryd.underlying3 h1
  obtain ⟨z2, hc2, rfl, _⟩ := DataW.trod_int Tryd.underlying3 h2
  have e := (Prod.mk.inj hx).1
  simp only [DataW.agg.injEq, List.cons.injEq, DataW.lit.injEq, Lit.int.injEq, true_and, and_true] at e
  obtain ⟨rfl, rfl, rfl⟩ := e
  have c0 : Tryd.prog.cellsOf 3 = 1 := by kernel_rfl
  refine ⟨?_, ?_, ?_⟩
  · have := congrArg (·[0]?) hc0
    simpa [List.getElem?_take, List.getElem?_drop, c0] using this
  · have := congrArg (·[0]?) hc1
    simpa [List.getElem?_take, List.getElem?_drop, c0] using this
  · have := congrArg (·[0]?) hc2
    simpa [List.getElem?_take, List.getElem?_drop, c0] using this
theorem shapes_cells {H : Type} {enc : TypeId × Value → H} {w : World} {base : Nat} {sp : Nat → Bool} {held : Bool} {fuel : Nat} {cs : List Value} {p : List MemPlace}
    (h : DataW.trod enc Tryd.prog w base sp held fuel 149 cs = some (.agg ((List.range 3).map shapeD), p)) (j : Nat) (hj : j < 3) :
    cs[j * 3]? = some (.int .i64 (shpL.getD (j * 3) 0)) ∧ cs[j * 3 + 1]? = some (.int .i64 (shpL.getD (j * 3 + 1) 0)) ∧ cs[j * 3 + 2]? = some (.int .i64 (shpL.getD (j * 3 + 2) 0)) := by
  have hce : Tryd.prog.cellsOf 121 = 3 := by kernel_rfl
  have hct : Tryd.prog.cellsOf 149 = 9 := by kernel_rfl
  cases fuel with
  | zero => simp [DataW.trod] at h
  | succ fuel =>
    simp only [DataW.trod, Tryd.underlying149, hce, hct] at h
    split at h
    · obtain ⟨xs, hm, hx⟩ := Option.map_eq_some_iff.1 h
      have hxs : xs.map (·.1) = (List.range 3).map (shapeD (H := H)) := by
        have := congrArg Prod.fst hx
        simpa using this
      obtain ⟨b, hb, hf⟩ := Lib.mapM_at hm j j (by simp [hj])
      have h2 : (xs.map (·.1))[j]? = some b.1 := by simp [hb]
      rw [hxs] at h2
      have h3 : ((List.range 3).map (shapeD (H := H)))[j]? = some (shapeD j) := by simp [hj]
      rw [h3] at h2
      have h4 : b.1 = shapeD j := (Option.some.inj h2).symm
      obtain ⟨b1, b2⟩ := b
      simp only at h4
      subst h4
      obtain ⟨k0, k1, k2⟩ := shape_elem hf
      refine ⟨?_, ?_, ?_⟩
      · simpa [List.getElem?_take, List.getElem?_drop] using k0
      · simpa [List.getElem?_take, List.getElem?_drop] using k1
      · simpa [List.getElem?_take, List.getElem?_drop] using k2
    · cases h
theorem gShapes : Tryd.prog.globalNamed "crucible/ieee.shapes" = some 0 := by kernel_rfl
theorem gShapesType : (Tryd.prog.globals[0]?).map (·.type) = some 149 := by kernel_rfl
theorem g32 : Tryd.prog.globalNamed "math/bits.deBruijn32tab" = some 1 := by kernel_rfl
theorem g32Type : (Tryd.prog.globals[1]?).map (·.type) = some 150 := by kernel_rfl
theorem g64 : Tryd.prog.globalNamed "math/bits.deBruijn64tab" = some 3 := by kernel_rfl
theorem g64Type : (Tryd.prog.globals[3]?).map (·.type) = some 158 := by kernel_rfl
theorem shapes_eq {H : Type} : (Rows.laid_crucible_ieee_shapes : DataW H) = .agg ((List.range 3).map shapeD) := rfl
theorem tab32_eq {H : Type} : (Rows.laid_math_bits_deBruijn32tab : DataW H) = tabData .u8 (tz32L.map Int.ofNat) := rfl
theorem tab64_eq {H : Type} : (Rows.laid_math_bits_deBruijn64tab : DataW H) = tabData .u8 (tz64L.map Int.ofNat) := rfl
theorem shapes_of_laid {W : World} {rest : List (String × DataW Unit)} (h : laidMet Tryd.prog (("crucible/ieee.shapes", Rows.laid_crucible_ieee_shapes) :: rest) W) :
    0 < W.heap.size ∧ ∀ i, i < 9 → W.cell? ⟨0, i, none⟩ = some (.int .i64 (shpL.getD i 0)) := by
  obtain ⟨ps, ⟨g', t', cs, fuel, p, q, hg', ht', hvar, hd, _, _⟩, _⟩ := h
  obtain rfl := Option.some.inj (gShapes.symm.trans hg')
  obtain rfl := Option.some.inj (gShapesType.symm.trans ht')
  rw [shapes_eq] at hd
  have key : ∀ i, i < 9 → W.cell? ⟨0, i, none⟩ = some (.int .i64 (shpL.getD i 0)) := by
    intro i hi
    have v := World.var?_cell gShapes hvar i
    rw [v]
    obtain ⟨k0, k1, k2⟩ := shapes_cells hd (i / 3) (by omega)
    have : i = i / 3 * 3 ∨ i = i / 3 * 3 + 1 ∨ i = i / 3 * 3 + 2 := by omega
    rcases this with e | e | e
    · rw [e]; simpa using k0
    · rw [e]; simpa using k1
    · rw [e]; simpa using k2
  exact ⟨World.block_lt_of_cell? W ⟨0, 0, none⟩ (key 0 (by decide)), key⟩
theorem tab_of_laid {W : World} {name : String} {g t n : Nat} {L : List Nat} {rest : List (String × DataW Unit)} (hg : Tryd.prog.globalNamed name = some g) (hty : (Tryd.prog.globals[g]?).map (·.type) = some t) (ht : Tryd.prog.underlying t = some (.array n 5)) (hct : Tryd.prog.cellsOf t = n) (hl : L.length = n) (h0 : 0 < n)
    (h : laidMet Tryd.prog ((name, tabData .u8 (L.map Int.ofNat)) :: rest) W) : g < W.heap.size ∧ ∀ i, i < n → W.cell? ⟨g, i, none⟩ = some (.int .u8 ((L.getD i 0 : Nat) : Int)) := by
  have hT := tabIs_of_head hg hty ht Tryd.underlying5 (by kernel_rfl) hct h
  have key : ∀ i, i < n → W.cell? ⟨g, i, none⟩ = some (.int .u8 ((L.getD i 0 : Nat) : Int)) := by
    intro i hi
    have hil : i < L.length := by omega
    rw [hT.cell hg i (by simpa using hil)]
    simp [List.getD, hil]
  exact ⟨World.block_lt_of_cell? W ⟨g, 0, none⟩ (key 0 h0), key⟩
theorem tabs_of_list {W : World} {a : String} {d : DataW Unit} {rest : List (String × DataW Unit)}
    (h : laidMet Tryd.prog (("math/bits.deBruijn32tab", Rows.laid_math_bits_deBruijn32tab) :: ("math/bits.deBruijn64tab", Rows.laid_math_bits_deBruijn64tab) :: (a, d) :: ("crucible/ieee.shapes", Rows.laid_crucible_ieee_shapes) :: rest) W) : Tabs W := by
  have h1 := h.tail
  have h2 := h1.tail.tail
  rw [tab32_eq] at h
  rw [tab64_eq] at h1
  have c32 := tab_of_laid (n := 32) g32 g32Type Tryd.underlying150 (by kernel_rfl) (by decide) (by decide) h
  have c64 := tab_of_laid (n := 64) g64 g64Type Tryd.underlying158 (by kernel_rfl) (by decide) (by decide) h1
  have cs := shapes_of_laid h2
  exact ⟨⟨c32.1, cs.1, c32.2, cs.2⟩, c64.1, c64.2⟩
theorem tabs0_of_list {W : World} {a : String} {d : DataW Unit} {rest : List (String × DataW Unit)}
    (h : laidMet Tryd.prog (("math/bits.deBruijn32tab", Rows.laid_math_bits_deBruijn32tab) :: (a, d) :: ("crucible/ieee.shapes", Rows.laid_crucible_ieee_shapes) :: rest) W) : Tabs0 W := by
  have h2 := h.tail.tail
  rw [tab32_eq] at h
  have c32 := tab_of_laid (n := 32) g32 g32Type Tryd.underlying150 (by kernel_rfl) (by decide) (by decide) h
  have cs := shapes_of_laid h2
  exact ⟨c32.1, cs.1, c32.2, cs.2⟩
end Go.Proofs.YtgckfilmhnapeaaDoor
