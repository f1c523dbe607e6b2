/- The sentinels and the type 'error', out of the rows' own list. -/
import Derived.Test.YtjfeebbhkolmoaaDoorRows
import Derived.Test.YtjfeebbhkolmoaaDoorJErrLaw
import Derived.Stop.LaidTwo
import Derived.LaidHandle
namespace Go.Proofs.YtjfeebbhkolmoaaDoor
open Go.RowKit Go.ChangeShapes Go.WideShapes
set_option linter.unusedVariables false

theorem laid_sentinel1 {P : Program} {n nm : String} {text : List UInt8} {r : List (String × DataW Unit)} {W : World} {g : Nat} {ti tp te ts : TypeId} {ms : Array (String × TypeId)} {f : Field}
    (h : laidMet P ((n, .iface nm (.ptr (.agg [.lit (.string text)]))) :: r) W)
    (hg : P.globalNamed n = some g) (ht : (P.globals[g]?).map (·.type) = some ti) (hi : P.underlying ti = some (.interface ms)) (hrow : ∀ u, P.typeName? 3 u = some nm → u = tp)
    (hp : P.underlying tp = some (.pointer te)) (he : P.underlying te = some (.struct #[f])) (hft : f.type = ts) (hfo : f.offset = 0) (hs : P.underlying ts = some .string) (hc : P.cellsOf te = 1) (hcs : P.cellsOf ts = 1) :
    ∃ (a : Addr) (s : ByteArray), W.cell? ⟨g, 0, none⟩ = some (.iface tp (.pointer (some a))) ∧ W.cell? a = some (.string s) ∧ s.data.toList = text ∧ ∃ c t, W.heap[a.block]? = some (.cells c t (0, 0)) := by
  obtain ⟨ps, ⟨g0, t0, cs0, f0, p0, q0, hg0, ht0, hv0, hd0, _, e0⟩, _, hrows⟩ := h
  obtain rfl := Option.some.inj (hg.symm.trans hg0)
  obtain rfl := Option.some.inj (ht.symm.trans ht0)
  subst e0
  obtain ⟨l0⟩ := cs0
  have ok0 : ∀ u v, l0 = [.iface u v] → Value.okWide P W .any 0 u v := fun u v e => by
    subst e
    exact (hrows g 0 (by simp [MemPlace.row])).2 u v (by simpa using World.var?_cell hg0 hv0 0)
  obtain ⟨a0, s0, rfl, hc0, hs0, hz0, rfl⟩ := errorString_of_trod hi hrow hp he hft hfo hs hc hcs hd0 ok0
  exact ⟨a0, s0, by simpa using World.var?_cell hg0 hv0 0, hc0, hs0, (hrows a0.block a0.off (by simp [MemPlace.row])).1⟩

theorem es_star : "*" ++ "errors.errorString" = "*errors.errorString" := by decide
theorem es_row (u : TypeId) (h : Tryd.prog.typeName? 3 u = some "*errors.errorString") : u = 142 :=
  typeName_ptr_named (nm := "errors.errorString") (by rw [es_star]; kernel_rfl) (by kernel_rfl) (by decide) u (by rw [es_star]; exact h)
theorem es_cells : Tryd.prog.cellsOf 163 = 1 := by kernel_rfl
theorem st_cells : Tryd.prog.cellsOf 9 = 1 := by kernel_rfl
theorem gTyp : Tryd.prog.globalNamed "errors.errorType" = some 12 := by kernel_rfl
theorem rtNamed : (Tryd.prog.cutTypes.find? (·.1 == "internal/reflectlite.rtype")).map (·.2) = some 120 := by kernel_rfl
theorem oneError : ((List.range 173).filter fun t => Tryd.prog.rowNamed t [101, 114, 114, 111, 114]) = [48] := by kernel_rfl
theorem nTypes : Tryd.prog.types.size = 173 := by kernel_rfl
theorem gN0 : Tryd.prog.globalNamed "crucible/api.ErrArg" = some 2 := by kernel_rfl
theorem gT0 : (Tryd.prog.globals[2]?).map (·.type) = some 48 := by kernel_rfl
theorem gN1 : Tryd.prog.globalNamed "crucible/api.ErrNil" = some 0 := by kernel_rfl
theorem gT1 : (Tryd.prog.globals[0]?).map (·.type) = some 48 := by kernel_rfl
theorem gN2 : Tryd.prog.globalNamed "crucible/api.ErrInput" = some 3 := by kernel_rfl
theorem gT2 : (Tryd.prog.globals[3]?).map (·.type) = some 48 := by kernel_rfl
theorem gN3 : Tryd.prog.globalNamed "crucible/api.ErrRep" = some 4 := by kernel_rfl
theorem gT3 : (Tryd.prog.globals[4]?).map (·.type) = some 48 := by kernel_rfl
theorem gN4 : Tryd.prog.globalNamed "crucible/api.ErrLimit" = some 5 := by kernel_rfl
theorem gT4 : (Tryd.prog.globals[5]?).map (·.type) = some 48 := by kernel_rfl
theorem gN5 : Tryd.prog.globalNamed "crucible/api.ErrNone" = some 6 := by kernel_rfl
theorem gT5 : (Tryd.prog.globals[6]?).map (·.type) = some 48 := by kernel_rfl
theorem gN6 : Tryd.prog.globalNamed "crucible/api.ErrBusy" = some 7 := by kernel_rfl
theorem gT6 : (Tryd.prog.globals[7]?).map (·.type) = some 48 := by kernel_rfl
theorem gN7 : Tryd.prog.globalNamed "crucible/api.ErrHandle" = some 8 := by kernel_rfl
theorem gT7 : (Tryd.prog.globals[8]?).map (·.type) = some 48 := by kernel_rfl
theorem gN8 : Tryd.prog.globalNamed "crucible/api.ErrKey" = some 9 := by kernel_rfl
theorem gT8 : (Tryd.prog.globals[9]?).map (·.type) = some 48 := by kernel_rfl
theorem gN9 : Tryd.prog.globalNamed "crucible/api.ErrStopped" = some 10 := by kernel_rfl
theorem gT9 : (Tryd.prog.globals[10]?).map (·.type) = some 48 := by kernel_rfl
theorem gN10 : Tryd.prog.globalNamed "crucible/api.ErrScript" = some 11 := by kernel_rfl
theorem gT10 : (Tryd.prog.globals[11]?).map (·.type) = some 48 := by kernel_rfl

def sen11 (x0 x1 x2 x3 x4 x5 x6 x7 x8 x9 x10 : Addr) (k : Nat) : Addr := if k = 0 then x0 else if k = 1 then x1 else if k = 2 then x2 else if k = 3 then x3 else if k = 4 then x4 else if k = 5 then x5 else if k = 6 then x6 else if k = 7 then x7 else if k = 8 then x8 else if k = 9 then x9 else x10
def texts : Nat → List UInt8
  | 0 => [97, 110, 32, 97, 114, 103, 117, 109, 101, 110, 116, 32, 116, 104, 97, 116, 32, 109, 97, 121, 32, 110, 111, 116, 32, 98, 101]
  | 1 => [97, 110, 32, 111, 98, 106, 101, 99, 116, 32, 116, 104, 97, 116, 32, 105, 115, 32, 110, 111, 116, 32, 116, 104, 101, 114, 101]
  | 2 => [110, 111, 32, 100, 111, 99, 117, 109, 101, 110, 116, 32, 111, 102, 32, 105, 116, 115, 32, 102, 111, 114, 109, 97, 116]
  | 3 => [97, 32, 118, 97, 108, 117, 101, 32, 116, 104, 97, 116, 32, 116, 104, 101, 32, 102, 111, 114, 109, 97, 116, 32, 104, 97, 115, 32, 110, 111, 116]
  | 4 => [97, 32, 108, 105, 109, 105, 116]
  | 5 => [110, 111, 32, 115, 117, 99, 104, 32, 116, 104, 105, 110, 103]
  | 6 => [116, 111, 111, 32, 109, 97, 110, 121, 32, 115, 101, 115, 115, 105, 111, 110, 115]
  | 7 => [110, 111, 32, 115, 117, 99, 104, 32, 115, 101, 115, 115, 105, 111, 110]
  | 8 => [97, 110, 111, 116, 104, 101, 114, 32, 107, 101, 121]
  | 9 => [115, 116, 111, 112, 112, 101, 100]
  | 10 => [110, 111, 32, 115, 99, 114, 105, 112, 116]
  | _ => []
theorem texts_ne : ∀ i j, i < 11 → j < 11 → i ≠ j → texts i ≠ texts j := by
  have h : ∀ i : Fin 11, ∀ j : Fin 11, i.val ≠ j.val → texts i.val ≠ texts j.val := by decide +kernel
  intro i j hi hj hne
  exact h ⟨i, hi⟩ ⟨j, hj⟩ hne

theorem errs_core {W : World} {rest : List (String × DataW Unit)} (h0 : laidMet Tryd.prog (("crucible/api.ErrArg", Rows.laid_crucible_api_ErrArg) :: ("crucible/api.ErrNil", Rows.laid_crucible_api_ErrNil) :: ("crucible/api.ErrInput", Rows.laid_crucible_api_ErrInput) :: ("crucible/api.ErrRep", Rows.laid_crucible_api_ErrRep) :: ("crucible/api.ErrLimit", Rows.laid_crucible_api_ErrLimit) :: ("crucible/api.ErrNone", Rows.laid_crucible_api_ErrNone) :: ("crucible/api.ErrBusy", Rows.laid_crucible_api_ErrBusy) :: ("crucible/api.ErrHandle", Rows.laid_crucible_api_ErrHandle) :: ("crucible/api.ErrKey", Rows.laid_crucible_api_ErrKey) :: ("crucible/api.ErrStopped", Rows.laid_crucible_api_ErrStopped) :: ("crucible/api.ErrScript", Rows.laid_crucible_api_ErrScript) :: rest) W) (hh : handlesMet Tryd.prog [("errors.errorType", Rows.laid_errors_errorType)] W) : (∃ a, Errs W a) ∧ laidMet Tryd.prog rest W := by
  have htyp : W.cell? ⟨12, 0, none⟩ = some (.iface 120 (.agg #[.pointer (some ⟨14, 48, none⟩)])) := by
    obtain ⟨name, u, ty, e1, e2, e3, e4, e5⟩ := hh _ (List.mem_singleton.2 rfl)
    have en : name = [101, 114, 114, 111, 114] := (Option.some.inj e1).symm
    subst en
    obtain rfl := Option.some.inj (rtNamed.symm.trans e2)
    have hm : ty ∈ (List.range 173).filter fun t => Tryd.prog.rowNamed t [101, 114, 114, 111, 114] := List.mem_filter.2 ⟨List.mem_range.2 (by rw [← nTypes]; exact e3), e4⟩
    rw [oneError] at hm
    obtain rfl := List.mem_singleton.1 hm
    have hy : typeHandle Tryd.prog 48 = .pointer (some ⟨14, 48, none⟩) := by kernel_rfl
    rw [hy] at e5
    simpa using World.var?_cell gTyp e5 0
  obtain ⟨a0, s0, c0, k0, x0, b0⟩ := laid_sentinel1 (text := texts 0) h0 gN0 gT0 Tryd.underlying48 es_row Tryd.underlying142 Tryd.underlying163 rfl rfl Tryd.underlying9 es_cells st_cells
  have h1 := h0.tail
  obtain ⟨a1, s1, c1, k1, x1, b1⟩ := laid_sentinel1 (text := texts 1) h1 gN1 gT1 Tryd.underlying48 es_row Tryd.underlying142 Tryd.underlying163 rfl rfl Tryd.underlying9 es_cells st_cells
  have h2 := h1.tail
  obtain ⟨a2, s2, c2, k2, x2, b2⟩ := laid_sentinel1 (text := texts 2) h2 gN2 gT2 Tryd.underlying48 es_row Tryd.underlying142 Tryd.underlying163 rfl rfl Tryd.underlying9 es_cells st_cells
  have h3 := h2.tail
  obtain ⟨a3, s3, c3, k3, x3, b3⟩ := laid_sentinel1 (text := texts 3) h3 gN3 gT3 Tryd.underlying48 es_row Tryd.underlying142 Tryd.underlying163 rfl rfl Tryd.underlying9 es_cells st_cells
  have h4 := h3.tail
  obtain ⟨a4, s4, c4, k4, x4, b4⟩ := laid_sentinel1 (text := texts 4) h4 gN4 gT4 Tryd.underlying48 es_row Tryd.underlying142 Tryd.underlying163 rfl rfl Tryd.underlying9 es_cells st_cells
  have h5 := h4.tail
  obtain ⟨a5, s5, c5, k5, x5, b5⟩ := laid_sentinel1 (text := texts 5) h5 gN5 gT5 Tryd.underlying48 es_row Tryd.underlying142 Tryd.underlying163 rfl rfl Tryd.underlying9 es_cells st_cells
  have h6 := h5.tail
  obtain ⟨a6, s6, c6, k6, x6, b6⟩ := laid_sentinel1 (text := texts 6) h6 gN6 gT6 Tryd.underlying48 es_row Tryd.underlying142 Tryd.underlying163 rfl rfl Tryd.underlying9 es_cells st_cells
  have h7 := h6.tail
  obtain ⟨a7, s7, c7, k7, x7, b7⟩ := laid_sentinel1 (text := texts 7) h7 gN7 gT7 Tryd.underlying48 es_row Tryd.underlying142 Tryd.underlying163 rfl rfl Tryd.underlying9 es_cells st_cells
  have h8 := h7.tail
  obtain ⟨a8, s8, c8, k8, x8, b8⟩ := laid_sentinel1 (text := texts 8) h8 gN8 gT8 Tryd.underlying48 es_row Tryd.underlying142 Tryd.underlying163 rfl rfl Tryd.underlying9 es_cells st_cells
  have h9 := h8.tail
  obtain ⟨a9, s9, c9, k9, x9, b9⟩ := laid_sentinel1 (text := texts 9) h9 gN9 gT9 Tryd.underlying48 es_row Tryd.underlying142 Tryd.underlying163 rfl rfl Tryd.underlying9 es_cells st_cells
  have h10 := h9.tail
  obtain ⟨a10, s10, c10, k10, x10, b10⟩ := laid_sentinel1 (text := texts 10) h10 gN10 gT10 Tryd.underlying48 es_row Tryd.underlying142 Tryd.underlying163 rfl rfl Tryd.underlying9 es_cells st_cells
  have h11 := h10.tail
  refine ⟨⟨sen11 a0 a1 a2 a3 a4 a5 a6 a7 a8 a9 a10, htyp, ?_, ?_, ?_⟩, h11⟩
  · intro k hk
    have : k = 0 ∨ k = 1 ∨ k = 2 ∨ k = 3 ∨ k = 4 ∨ k = 5 ∨ k = 6 ∨ k = 7 ∨ k = 8 ∨ k = 9 ∨ k = 10 := by omega
    rcases this with rfl | rfl | rfl | rfl | rfl | rfl | rfl | rfl | rfl | rfl | rfl
    · exact c0
    · exact c1
    · exact c2
    · exact c3
    · exact c4
    · exact c5
    · exact c6
    · exact c7
    · exact c8
    · exact c9
    · exact c10
  · intro k hk
    have : k = 0 ∨ k = 1 ∨ k = 2 ∨ k = 3 ∨ k = 4 ∨ k = 5 ∨ k = 6 ∨ k = 7 ∨ k = 8 ∨ k = 9 ∨ k = 10 := by omega
    rcases this with rfl | rfl | rfl | rfl | rfl | rfl | rfl | rfl | rfl | rfl | rfl
    · exact b0
    · exact b1
    · exact b2
    · exact b3
    · exact b4
    · exact b5
    · exact b6
    · exact b7
    · exact b8
    · exact b9
    · exact b10
  · have key : ∀ k, k < 11 → ∃ s, W.cell? (sen11 a0 a1 a2 a3 a4 a5 a6 a7 a8 a9 a10 k) = some (.string s) ∧ s.data.toList = texts k := by
      intro k hk
      have : k = 0 ∨ k = 1 ∨ k = 2 ∨ k = 3 ∨ k = 4 ∨ k = 5 ∨ k = 6 ∨ k = 7 ∨ k = 8 ∨ k = 9 ∨ k = 10 := by omega
      rcases this with rfl | rfl | rfl | rfl | rfl | rfl | rfl | rfl | rfl | rfl | rfl
      · exact ⟨s0, k0, x0⟩
      · exact ⟨s1, k1, x1⟩
      · exact ⟨s2, k2, x2⟩
      · exact ⟨s3, k3, x3⟩
      · exact ⟨s4, k4, x4⟩
      · exact ⟨s5, k5, x5⟩
      · exact ⟨s6, k6, x6⟩
      · exact ⟨s7, k7, x7⟩
      · exact ⟨s8, k8, x8⟩
      · exact ⟨s9, k9, x9⟩
      · exact ⟨s10, k10, x10⟩
    intro i j hi hj hne e
    obtain ⟨si, ci, xi⟩ := key i hi
    obtain ⟨sj, cj, xj⟩ := key j hj
    rw [e, cj] at ci
    obtain rfl : sj = si := by simpa using ci
    exact texts_ne i j hi hj hne (xi.symm.trans xj)
theorem errs_of_laid {W : World} (h : laidMetH Tryd.prog Rows.jsonscanTellsUptoRow.laid W) : ∃ a, Errs W a := by
  have h' : laidMet Tryd.prog (Rows.jsonscanTellsUptoRow.laid.filter fun x => x.2.handleName?.isNone) W ∧ handlesMet Tryd.prog [("errors.errorType", Rows.laid_errors_errorType)] W := h
  exact (errs_core (rest := []) h'.1 h'.2).1
end Go.Proofs.YtjfeebbhkolmoaaDoor
