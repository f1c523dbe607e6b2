/- The table of short strokes, out of the row's own list. -/
import Derived.Test.YtiignmjglihbnaaDoorQuote
import Derived.Lib.LaidTab
namespace Go.Proofs.YtiignmjglihbnaaDoor
open Go.RowKit Go.ChangeShapes Go.WideShapes

theorem short_elem {H : Type} {enc : TypeId × Value → H} {w : World} {base : Nat} {sp : Nat → Bool} {held : Bool} {fuel : Nat} {cs : List Value} {a b : Int} {p : List MemPlace}
    (h : DataW.trod enc Tryd.prog w base sp held fuel 52 cs = some (.agg [.lit (.int .u8 a), .lit (.int .u8 b)], p)) : cs[0]? = some (.int .u8 a) ∧ cs[1]? = some (.int .u8 b) := by
  obtain ⟨y0, y1, n, hx, _, h0, h1⟩ := trod_struct2 Tryd.underlying52 h
  obtain ⟨z0, hc0, rfl, _⟩ := DataW.trod_int Tryd.underlying5 h0
  obtain ⟨z1, hc1, rfl, _⟩ := DataW.trod_int Tryd.underlying5 h1
  have e := (Prod.mk.inj hx).1
  simp only [DataW.agg.injEq, List.cons.injEq, DataW.lit.injEq, Lit.int.injEq, true_and, and_true] at e
  obtain ⟨rfl, rfl⟩ := e
  have c0 : Tryd.prog.cellsOf 5 = 1 := by kernel_rfl
  constructor
  · have := congrArg (·[0]?) hc0
    simpa [List.getElem?_take, List.getElem?_drop, c0] using this
  · have := congrArg (·[0]?) hc1
    simpa [List.getElem?_take, List.getElem?_drop, c0] using this

def shD {H : Type} (j : Nat) : DataW H := .agg [.lit (.int .u8 (shL j)), .lit (.int .u8 (shM j))]

theorem shorts_cells {H : Type} {enc : TypeId × Value → H} {w : World} {base : Nat} {sp : Nat → Bool} {held : Bool} {fuel : Nat} {cs : List Value} {p : List MemPlace}
    (h : DataW.trod enc Tryd.prog w base sp held fuel 53 cs = some (.agg ((List.range 8).map shD), p)) (j : Nat) (hj : j < 8) : cs[j * 2]? = some (.int .u8 (shL j)) ∧ cs[j * 2 + 1]? = some (.int .u8 (shM j)) := by
  have hce : Tryd.prog.cellsOf 52 = 2 := by kernel_rfl
  have hct : Tryd.prog.cellsOf 53 = 16 := by kernel_rfl
  cases fuel with
  | zero => simp [DataW.trod] at h
  | succ fuel =>
    simp only [DataW.trod, Tryd.underlying53, hce, hct] at h
    split at h
    · obtain ⟨xs, hm, hx⟩ := Option.map_eq_some_iff.1 h
      have hxs : xs.map (·.1) = (List.range 8).map (shD (H := H)) := by
        have := congrArg Prod.fst hx
        simpa using this
      obtain ⟨b, hb, hf⟩ := Lib.mapM_at hm j j (by simp [hj])
      have h2 : (xs.map (·.1))[j]? = some b.1 := by simp [hb]
      rw [hxs] at h2
      have h3 : ((List.range 8).map (shD (H := H)))[j]? = some (shD j) := by simp [hj]
      rw [h3] at h2
      have h4 : b.1 = shD j := (Option.some.inj h2).symm
      obtain ⟨b1, b2⟩ := b
      simp only at h4
      subst h4
      obtain ⟨k0, k1⟩ := short_elem hf
      constructor
      · simpa [List.getElem?_take, List.getElem?_drop] using k0
      · simpa [List.getElem?_take, List.getElem?_drop] using k1
    · cases h

theorem gShorts : Tryd.prog.globalNamed "crucible/escape.shorts" = some 0 := by kernel_rfl
theorem gShortsType : (Tryd.prog.globals[0]?).map (·.type) = some 53 := by kernel_rfl
theorem laid_eq {H : Type} : (Rows.laid_crucible_escape_shorts : DataW H) = .agg ((List.range 8).map shD) := rfl

theorem shorts_of_laid {W : World} {rest : List (String × DataW Unit)} (h : laidMet Tryd.prog (("crucible/escape.shorts", Rows.laid_crucible_escape_shorts) :: rest) W) : Shorts W := by
  obtain ⟨ps, ⟨g', t', cs, fuel, p, q, hg', ht', hvar, hd, _, _⟩, _⟩ := h
  obtain rfl := Option.some.inj (gShorts.symm.trans hg')
  obtain rfl := Option.some.inj (gShortsType.symm.trans ht')
  rw [laid_eq] at hd
  have key : ∀ j, j < 8 → W.cell? ⟨0, j * 2, none⟩ = some (.int .u8 (shL j)) ∧ W.cell? ⟨0, j * 2 + 1, none⟩ = some (.int .u8 (shM j)) := by
    intro j hj
    obtain ⟨k0, k1⟩ := shorts_cells hd j hj
    have v0 := World.var?_cell gShorts hvar (j * 2)
    have v1 := World.var?_cell gShorts hvar (j * 2 + 1)
    exact ⟨by rw [v0]; simpa using k0, by rw [v1]; simpa using k1⟩
  exact ⟨World.block_lt_of_cell? W ⟨0, 0, none⟩ (key 0 (by decide)).1, key⟩
end Go.Proofs.YtiignmjglihbnaaDoor
