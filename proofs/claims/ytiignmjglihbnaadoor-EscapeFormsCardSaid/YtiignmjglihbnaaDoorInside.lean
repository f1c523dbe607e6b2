/- Contract of (*crucibleref10.State).inside; a State in memory. -/
import Derived.Test.YtiignmjglihbnaaDoorFirst
namespace Go.Proofs.YtiignmjglihbnaaDoor
open Go.RowKit

/-- crucibleref10's State -/
structure St where
  mode : Int
  left : Int
  number : Int
  high : Int
  low : Nat
  most : Nat
  text : List Nat

def stCells (s : St) (v : Value) : Array Value := #[.int .i64 s.mode, .int .i64 s.left, .int .i64 s.number, .int .i64 s.high, .int .u8 (s.low : Nat), .int .u8 (s.most : Nat), v]
/-- a State lies in block g; its text is a row of its own -/
def StAt (w : World) (base g : Nat) (s : St) : Prop := ∃ v, Blk w g 61 (stCells s v) ∧ w.ownsRow base 5 1 v s.text.length (vals .u8 s.text)
/-- what a call of its methods leaves -/
def StPost (w : World) (base g : Nat) (s : St) (ok : Bool) (e : Ending) (w' : World) : Prop := e = .returned (.bool ok) ∧ StAt w' base g s ∧ Below base w w' ∧ w.heap.size ≤ w'.heap.size

theorem info_u8 : (Tryd.prog.info? 5).map (fun i => (i.zero, i.size, i.bytes)) = some (some (.int .u8 0), 1, 1) := by kernel_rfl

theorem StAt.ne {w : World} {base g : Nat} {v : Value} {cs : Array Value} {n : Nat} {xs : List Value} (hB : Blk w g 61 cs) (ho : w.ownsRow base 5 1 v n xs) : v.ownBlock ≠ some g := own_blk_ne ho hB (by decide)

def inside (s : St) (c : Nat) : St × Bool :=
  if c = 34 then ({ s with mode := 7 }, true)
  else if c = 92 then ({ s with mode := 2 }, true)
  else if c < 32 ∨ (127 < c ∧ c < 194) ∨ 244 < c then (s, false)
  else if c < 128 then ({ s with text := s.text ++ [c] }, true)
  else ({ s with text := s.text ++ [c], mode := 6, low := loB c, most := hiB c, left := if 240 ≤ c then 3 else if 224 ≤ c then 2 else 1 }, true)

theorem stSet0 {w : World} {g : Nat} {s : St} {v : Value} (h : Blk w g 61 (stCells s v)) (x : Int) : Blk (w.setCell ⟨g, 0, none⟩ (.int .i64 x)) g 61 (stCells { s with mode := x } v) := h.set_ 0 _
theorem stSet1 {w : World} {g : Nat} {s : St} {v : Value} (h : Blk w g 61 (stCells s v)) (x : Int) : Blk (w.setCell ⟨g, 1, none⟩ (.int .i64 x)) g 61 (stCells { s with left := x } v) := h.set_ 1 _
theorem stSet2 {w : World} {g : Nat} {s : St} {v : Value} (h : Blk w g 61 (stCells s v)) (x : Int) : Blk (w.setCell ⟨g, 2, none⟩ (.int .i64 x)) g 61 (stCells { s with number := x } v) := h.set_ 2 _
theorem stSet3 {w : World} {g : Nat} {s : St} {v : Value} (h : Blk w g 61 (stCells s v)) (x : Int) : Blk (w.setCell ⟨g, 3, none⟩ (.int .i64 x)) g 61 (stCells { s with high := x } v) := h.set_ 3 _
theorem stSet4 {w : World} {g : Nat} {s : St} {v : Value} (h : Blk w g 61 (stCells s v)) (x : Nat) : Blk (w.setCell ⟨g, 4, none⟩ (.int .u8 x)) g 61 (stCells { s with low := x } v) := h.set_ 4 _
theorem stSet5 {w : World} {g : Nat} {s : St} {v : Value} (h : Blk w g 61 (stCells s v)) (x : Nat) : Blk (w.setCell ⟨g, 5, none⟩ (.int .u8 x)) g 61 (stCells { s with most := x } v) := h.set_ 5 _
theorem stSet6 {w : World} {g : Nat} {s : St} {v : Value} (h : Blk w g 61 (stCells s v)) (v' : Value) : Blk (w.setCell ⟨g, 6, none⟩ v') g 61 (stCells s v') := h.set_ 6 _
theorem stText {w : World} {g : Nat} {s : St} {v : Value} (h : Blk w g 61 (stCells s v)) (x : List Nat) : Blk w g 61 (stCells { s with text := x } v) := h
theorem own_far' {w : World} {base size n g : Nat} {e : TypeId} {v : Value} {xs : List Value} (h : w.ownsRow base e size v n xs) (hne : v.ownBlock ≠ some g) (i : Nat) (u : Value) : (w.setCell ⟨g, i, none⟩ u).ownsRow base e size v n xs := by
  refine ⟨h.1, ?_⟩
  rcases h.2 with ⟨h1, h2⟩ | ⟨g', cap', cur, rfl, h1, h2, h3⟩
  · exact .inl ⟨h1, h2⟩
  · exact .inr ⟨g', cap', cur, rfl, h1, (Below.heap_setCell w ⟨g, i, none⟩ u g' (by intro k; exact hne (by rw [k]; rfl))).trans h2, h3⟩
theorem vals_snoc (xs : List Nat) (c : Nat) : vals .u8 (xs ++ [c]) = vals .u8 xs ++ [.int .u8 (c : Int)] := by rw [vals_append, vals_one]
theorem one_cell_new (w : World) (t : TypeId) (v : Value) : ∀ (j : Nat) (u : Value), [v][j]? = some u → (w.alloc (.cells #[v] t)).cell? ((⟨w.heap.size, 0, none⟩ : Addr).add j) = some u := cell_one_new w _ _
theorem eqF {c : Nat} {n : Int} (h : (c : Int) ≠ n) : ((c : Int) == n) = false := by rw [beq_eq_false_iff_ne]; exact h

set_option maxRecDepth 100000 in
theorem inside_quote (w : World) (base g : Nat) (s : St) (hs : StAt w base g s) (hg : base ≤ g) :
    Calls Tryd.prog 37 #[.pointer (some ⟨g, 0, none⟩), .int .u8 34] w (StPost w base g { s with mode := 7 } true) := by
  obtain ⟨v, hb, ho⟩ := hs
  have hn := StAt.ne hb ho
  have HB := Lib.hid hb
  have HO := Lib.hid ho
  have HN := Lib.hid hn
  have c0 := hb.cell 0
  have f0 := hb.frozen 0
  unfold stCells at c0
  clear hb ho hn
  go_enter Tryd.func37, Tryd.ntmps37
  go_wp2_with fail
  go_ret
  exact ⟨rfl, ⟨v, HB.out.set_ 0 _, own_far' HO.out HN.out 0 _⟩, (Below.refl _ _).setCell (p := ⟨g, 0, none⟩) hg _, by simp⟩

set_option maxRecDepth 100000 in
theorem inside_stroke (w : World) (base g : Nat) (s : St) (hs : StAt w base g s) (hg : base ≤ g) :
    Calls Tryd.prog 37 #[.pointer (some ⟨g, 0, none⟩), .int .u8 92] w (StPost w base g { s with mode := 2 } true) := by
  obtain ⟨v, hb, ho⟩ := hs
  have hn := StAt.ne hb ho
  have HB := Lib.hid hb
  have HO := Lib.hid ho
  have HN := Lib.hid hn
  have c0 := hb.cell 0
  have f0 := hb.frozen 0
  unfold stCells at c0
  clear hb ho hn
  go_enter Tryd.func37, Tryd.ntmps37
  go_wp2_with fail
  go_ret
  exact ⟨rfl, ⟨v, HB.out.set_ 0 _, own_far' HO.out HN.out 0 _⟩, (Below.refl _ _).setCell (p := ⟨g, 0, none⟩) hg _, by simp⟩

set_option maxRecDepth 100000 in
theorem inside_low (w : World) (base g : Nat) (s : St) (hs : StAt w base g s) (c : Nat) (h : c < 32) :
    Calls Tryd.prog 37 #[.pointer (some ⟨g, 0, none⟩), .int .u8 c] w (StPost w base g s false) := by
  obtain ⟨v, hb, ho⟩ := hs
  have HB := Lib.hid hb
  have HO := Lib.hid ho
  clear hb ho
  have h1 : (c : Int) < 32 := by omega
  have q1 : ((c : Int) == 34) = false := eqF (by omega)
  have q2 : ((c : Int) == 92) = false := eqF (by omega)
  clear h
  go_enter Tryd.func37, Tryd.ntmps37
  go_wp2_with fail
  go_ret
  exact ⟨rfl, ⟨v, HB.out, HO.out⟩, Below.refl _ _, Nat.le_refl _⟩

set_option maxRecDepth 100000 in
theorem inside_mid (w : World) (base g : Nat) (s : St) (hs : StAt w base g s) (c : Nat) (h : 127 < c) (h' : c < 194) :
    Calls Tryd.prog 37 #[.pointer (some ⟨g, 0, none⟩), .int .u8 c] w (StPost w base g s false) := by
  obtain ⟨v, hb, ho⟩ := hs
  have HB := Lib.hid hb
  have HO := Lib.hid ho
  clear hb ho
  have h1 : 127 < (c : Int) := by omega
  have h2 : (c : Int) < 194 := by omega
  have q1 : ((c : Int) == 34) = false := eqF (by omega)
  have q2 : ((c : Int) == 92) = false := eqF (by omega)
  clear h h'
  go_enter Tryd.func37, Tryd.ntmps37
  go_wp2_with fail
  go_ret
  exact ⟨rfl, ⟨v, HB.out, HO.out⟩, Below.refl _ _, Nat.le_refl _⟩

set_option maxRecDepth 100000 in
theorem inside_high (w : World) (base g : Nat) (s : St) (hs : StAt w base g s) (c : Nat) (h : 244 < c) :
    Calls Tryd.prog 37 #[.pointer (some ⟨g, 0, none⟩), .int .u8 c] w (StPost w base g s false) := by
  obtain ⟨v, hb, ho⟩ := hs
  have HB := Lib.hid hb
  have HO := Lib.hid ho
  clear hb ho
  have h1 : 244 < (c : Int) := by omega
  have q1 : ((c : Int) == 34) = false := eqF (by omega)
  have q2 : ((c : Int) == 92) = false := eqF (by omega)
  clear h
  go_enter Tryd.func37, Tryd.ntmps37
  go_wp2_with fail
  go_ret
  exact ⟨rfl, ⟨v, HB.out, HO.out⟩, Below.refl _ _, Nat.le_refl _⟩

set_option maxRecDepth 100000 in
set_option maxHeartbeats 6000000 in
theorem inside_ascii (w : World) (base g : Nat) (s : St) (hs : StAt w base g s) (hg : base ≤ g) (hbs : base ≤ w.heap.size) (hl : s.text.length ≤ 140737488355000) (c : Nat) (h : 32 ≤ c) (h' : c < 128) (h1 : c ≠ 34) (h2 : c ≠ 92) :
    Calls Tryd.prog 37 #[.pointer (some ⟨g, 0, none⟩), .int .u8 (c)] w (StPost w base g { s with text := s.text ++ [c] } true) := by
  obtain ⟨v, hb, ho⟩ := hs
  have hn := StAt.ne hb ho
  have HB := Lib.hid hb
  have HO := Lib.hid ho
  have HN := Lib.hid hn
  have HL := Lib.hid hl
  have c6 := hb.cell 6
  unfold stCells at c6
  obtain ⟨i0, hi, hz0, hz1, hz2⟩ := info_parts info_u8
  have HP1 := Lib.hid (ho.alloc (.cells #[.int .u8 (c)] 5))
  clear hb ho hn hl
  have k1 : 32 ≤ (c : Int) := by omega
  have k2 : (c : Int) < 128 := by omega
  have q1 : ((c : Int) == 34) = false := eqF (by omega)
  have q2 : ((c : Int) == 92) = false := eqF (by omega)
  clear h h' h1 h2
  go_enter Tryd.func37, Tryd.ntmps37
  go_wp2_with (at_builtin; refine wpList_append_own _ rfl _ _ 49 rfl base 5 i0 (.int .u8 0) 1 1 Tryd.underlying49 hi hz0 hz1 hz2 rfl (by decide) _ _ _ rfl HP1.out ⟨w.heap.size, 0, none⟩ 1 1 [.int .u8 (c)] rfl rfl ?c1 ?c2 ?c3 ?c4 ?c5 ?_)
  (try case c1 => exact one_cell_new _ _ _)
  case c2 => first | (intro u hu; simp at hu; subst hu; rfl) | rfl
  case c3 => unfold maxLen; have := HL.out; omega
  case c4 => have := HL.out; omega
  case c5 => first | (simp; omega) | omega
  intro v2 w2 hown2 hg2 _
  obtain ⟨A2, k2, rfl, -, -, -, -⟩ := own_rd hown2
  have hb2 := (HB.out.alloc (.cells #[.int .u8 (c)] 5)).grown hg2 (fun k => HN.out k.symm)
  have hl2 := ((Below.refl base w).alloc hbs (.cells #[.int .u8 (c)] 5)).grown hg2 (by simp; omega) (fun q hq => (HO.out.lt q hq).1)
  have HN2 := Lib.hid (StAt.ne hb2 hown2)
  have HB2 := Lib.hid hb2
  have HO2 : Hid (w2.ownsRow base 5 1 _ (s.text ++ [c]).length (vals .u8 (s.text ++ [c]))) := Lib.hid (by rw [List.length_append, vals_snoc]; exact hown2)
  have HL2 := Lib.hid hl2
  have c0 := hb2.cell 0
  have c1 := hb2.cell 1
  have c4 := hb2.cell 4
  have c5 := hb2.cell 5
  have d6 := hb2.cell 6
  have f0 := hb2.frozen 0
  have f1 := hb2.frozen 1
  have f4 := hb2.frozen 4
  have f5 := hb2.frozen 5
  have f6 := hb2.frozen 6
  unfold stCells at c0 c1 c4 c5 d6
  clear hb2 hown2 hg2 hl2 c6
  go_wp2_with fail
  go_ret
  exact ⟨rfl, ⟨_, stText (stSet6 HB2.out _) (s.text ++ [c]), own_far' HO2.out HN2.out 6 _⟩, HL2.out.setCell (p := ⟨g, 6, none⟩) hg _, by have := HL2.out.size; simp; omega⟩

end Go.Proofs.YtiignmjglihbnaaDoor
