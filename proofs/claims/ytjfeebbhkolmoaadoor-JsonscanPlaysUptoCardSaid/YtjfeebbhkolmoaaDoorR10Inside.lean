/- Contract of (*crucibleref10.State).inside; a State in memory, inside a Scanner. -/
import Derived.Test.YtjfeebbhkolmoaaDoorJs0
namespace Go.Proofs.YtjfeebbhkolmoaaDoor.R
open Go.RowKit

/-- the byte that may come second, by the first -/
def loB (c : Nat) : Nat := if c = 224 then 160 else if c = 240 then 144 else 128
def hiB (c : Nat) : Nat := if c = 237 then 159 else if c = 244 then 143 else 191
/-- the fields of a crucibleref16.Scanner that a State's methods leave alone -/
structure Ot where
  mode : Nat
  open_ : ByteArray
  keys : Bool
  rest : ByteArray
  size : Int
  bad : Nat
  at_ : Int
/-- crucibleref10's State, inside a Scanner -/
structure St where
  o : Ot
  mode : Int
  left : Int
  number : Int
  high : Int
  low : Nat
  most : Nat
  text : List Nat

def stCells (s : St) (v : Value) : Array Value := #[.bool true, .int .i64 (s.o.mode : Nat), .string s.o.open_, .int .i64 s.mode, .int .i64 s.left, .int .i64 s.number, .int .i64 s.high, .int .u8 (s.low : Nat), .int .u8 (s.most : Nat), v, .bool s.o.keys, .string s.o.rest, .int .i64 s.o.size, .int .i64 (s.o.bad : Nat), .int .i64 s.o.at_, .string ⟨#[]⟩]
/-- the blocks of a Scanner -/
def SO (g : Nat) (v : Value) : Nat → Prop := fun i => i = g ∨ v.ownBlock = some i
/-- a Scanner lies in block g; its State's text is a row of its own -/
def StAt (w : World) (S : Nat → Prop) (g : Nat) (s : St) : Prop := ∃ v, Blk w g 41 (stCells s v) ∧ w.ownsRow 0 5 1 v s.text.length (vals .u8 s.text) ∧ S = SO g v
/-- what a call of its methods leaves -/
def StLeft (w : World) (S : Nat → Prop) (g : Nat) (s : St) (w' : World) : Prop := ∃ S', StAt w' S' g s ∧ Keeps S w w' ∧ Fresh w S S'
def StPost (w : World) (S : Nat → Prop) (g : Nat) (s : St) (ok : Bool) (e : Ending) (w' : World) : Prop := e = .returned (.bool ok) ∧ StLeft w S g s w'

theorem stSame {w w' : World} {g : Nat} {v : Value} {s : St} {ok : Bool} (hb : Blk w' g 41 (stCells s v)) (ho : w'.ownsRow 0 5 1 v s.text.length (vals .u8 s.text)) (hk : Keeps (SO g v) w w') : StPost w (SO g v) g s ok (.returned (.bool ok)) w' :=
  ⟨rfl, SO g v, ⟨v, hb, ho, rfl⟩, hk, Fresh.refl _ _⟩
theorem stNew {w w' : World} {g : Nat} {v v' : Value} {s : St} {ok : Bool} (hb : Blk w' g 41 (stCells s v')) (ho : w'.ownsRow 0 5 1 v' s.text.length (vals .u8 s.text)) (hk : Keeps (SO g v) w w') (hf : Fresh w (SO g v) (SO g v')) : StPost w (SO g v) g s ok (.returned (.bool ok)) w' :=
  ⟨rfl, SO g v', ⟨v', hb, ho, rfl⟩, hk, hf⟩
theorem stStay {w : World} {S : Nat → Prop} {g : Nat} {s : St} {ok : Bool} (h : StAt w S g s) : StPost w S g s ok (.returned (.bool ok)) w := ⟨rfl, S, h, Keeps.refl _ _, Fresh.refl _ _⟩
theorem fr_of {a : World} {g k : Nat} {v v' : Value} (hor : v'.ownBlock = v.ownBlock ∨ v'.ownBlock = some k) (hk : a.heap.size ≤ k) : Fresh a (SO g v) (SO g v') := by
  rintro i (rfl | h)
  · exact .inl (.inl rfl)
  · rcases hor with h1 | h1
    · exact .inl (.inr (by rw [← h1]; exact h))
    · rw [h] at h1
      injection h1 with h1
      right
      omega
theorem StAt.ne {w : World} {g : Nat} {v : Value} {cs : Array Value} {n : Nat} {xs : List Value} (hB : Blk w g 41 cs) (ho : w.ownsRow 0 5 1 v n xs) : v.ownBlock ≠ some g := own_blk_ne ho hB (by decide)
theorem Keeps.below0 {S : Nat → Prop} {a b w : World} (h : Keeps S a b) (hb : Below b.heap.size b w) : Keeps S a w := h.trans (Keeps.of_below (S := fun _ => False) hb) (fun _ h => h.elim)

def inside (s : St) (c : Nat) : St × Bool :=
  if c = 34 then ({ s with mode := 7 }, true)
  else if c = 92 then ({ s with mode := 2 }, true)
  else if c < 32 ∨ (127 < c ∧ c < 194) ∨ 244 < c then (s, false)
  else if c < 128 then ({ s with text := s.text ++ [c] }, true)
  else ({ s with text := s.text ++ [c], mode := 6, low := loB c, most := hiB c, left := if 240 ≤ c then 3 else if 224 ≤ c then 2 else 1 }, true)

theorem stSet0 {w : World} {g : Nat} {s : St} {v : Value} (h : Blk w g 41 (stCells s v)) (x : Int) : Blk (w.setCell ⟨g, 3, none⟩ (.int .i64 x)) g 41 (stCells { s with mode := x } v) := h.set_ 3 _
theorem stSet1 {w : World} {g : Nat} {s : St} {v : Value} (h : Blk w g 41 (stCells s v)) (x : Int) : Blk (w.setCell ⟨g, 4, none⟩ (.int .i64 x)) g 41 (stCells { s with left := x } v) := h.set_ 4 _
theorem stSet2 {w : World} {g : Nat} {s : St} {v : Value} (h : Blk w g 41 (stCells s v)) (x : Int) : Blk (w.setCell ⟨g, 5, none⟩ (.int .i64 x)) g 41 (stCells { s with number := x } v) := h.set_ 5 _
theorem stSet3 {w : World} {g : Nat} {s : St} {v : Value} (h : Blk w g 41 (stCells s v)) (x : Int) : Blk (w.setCell ⟨g, 6, none⟩ (.int .i64 x)) g 41 (stCells { s with high := x } v) := h.set_ 6 _
theorem stSet4 {w : World} {g : Nat} {s : St} {v : Value} (h : Blk w g 41 (stCells s v)) (x : Nat) : Blk (w.setCell ⟨g, 7, none⟩ (.int .u8 x)) g 41 (stCells { s with low := x } v) := h.set_ 7 _
theorem stSet5 {w : World} {g : Nat} {s : St} {v : Value} (h : Blk w g 41 (stCells s v)) (x : Nat) : Blk (w.setCell ⟨g, 8, none⟩ (.int .u8 x)) g 41 (stCells { s with most := x } v) := h.set_ 8 _
theorem stSet6 {w : World} {g : Nat} {s : St} {v : Value} (h : Blk w g 41 (stCells s v)) (v' : Value) : Blk (w.setCell ⟨g, 9, none⟩ v') g 41 (stCells s v') := h.set_ 9 _
theorem stText {w : World} {g : Nat} {s : St} {v : Value} (h : Blk w g 41 (stCells s v)) (x : List Nat) : Blk w g 41 (stCells { s with text := x } v) := h
set_option maxRecDepth 100000 in
theorem inside_quote (w : World) (S : Nat → Prop) (g : Nat) (s : St) (hs : StAt w S g s) :
    Calls Tryd.prog 87 #[.pointer (some ⟨g, 3, none⟩), .int .u8 34] w (StPost w S g { s with mode := 7 } true) := by
  obtain ⟨v, hb, ho, rfl⟩ := hs
  have hn := StAt.ne hb ho
  have HB := Lib.hid hb
  have HO := Lib.hid ho
  have HN := Lib.hid hn
  have c0 := hb.cell 3
  have f0 := hb.frozen 3
  unfold stCells at c0
  clear hb ho hn
  go_enter Tryd.func87, Tryd.ntmps87
  go_wp2_with fail
  go_ret
  exact stSame (HB.out.set_ 3 _) (own_far' HO.out HN.out 3 _) ((Keeps.refl _ _).setCell (p := ⟨g, 3, none⟩) (.inl (.inl rfl)) _)

set_option maxRecDepth 100000 in
theorem inside_stroke (w : World) (S : Nat → Prop) (g : Nat) (s : St) (hs : StAt w S g s) :
    Calls Tryd.prog 87 #[.pointer (some ⟨g, 3, none⟩), .int .u8 92] w (StPost w S g { s with mode := 2 } true) := by
  obtain ⟨v, hb, ho, rfl⟩ := hs
  have hn := StAt.ne hb ho
  have HB := Lib.hid hb
  have HO := Lib.hid ho
  have HN := Lib.hid hn
  have c0 := hb.cell 3
  have f0 := hb.frozen 3
  unfold stCells at c0
  clear hb ho hn
  go_enter Tryd.func87, Tryd.ntmps87
  go_wp2_with fail
  go_ret
  exact stSame (HB.out.set_ 3 _) (own_far' HO.out HN.out 3 _) ((Keeps.refl _ _).setCell (p := ⟨g, 3, none⟩) (.inl (.inl rfl)) _)

set_option maxRecDepth 100000 in
theorem inside_low (w : World) (S : Nat → Prop) (g : Nat) (s : St) (hs : StAt w S g s) (c : Nat) (h : c < 32) :
    Calls Tryd.prog 87 #[.pointer (some ⟨g, 3, none⟩), .int .u8 c] w (StPost w S g s false) := by
  obtain ⟨v, hb, ho, rfl⟩ := hs
  have HB := Lib.hid hb
  have HO := Lib.hid ho
  clear hb ho
  have h1 : (c : Int) < 32 := by omega
  have q1 : ((c : Int) == 34) = false := eqF (by omega)
  have q2 : ((c : Int) == 92) = false := eqF (by omega)
  clear h
  go_enter Tryd.func87, Tryd.ntmps87
  go_wp2_with fail
  go_ret
  exact stSame (HB.out) (HO.out) (Keeps.refl _ _)

set_option maxRecDepth 100000 in
theorem inside_mid (w : World) (S : Nat → Prop) (g : Nat) (s : St) (hs : StAt w S g s) (c : Nat) (h : 127 < c) (h' : c < 194) :
    Calls Tryd.prog 87 #[.pointer (some ⟨g, 3, none⟩), .int .u8 c] w (StPost w S g s false) := by
  obtain ⟨v, hb, ho, rfl⟩ := hs
  have HB := Lib.hid hb
  have HO := Lib.hid ho
  clear hb ho
  have h1 : 127 < (c : Int) := by omega
  have h2 : (c : Int) < 194 := by omega
  have q1 : ((c : Int) == 34) = false := eqF (by omega)
  have q2 : ((c : Int) == 92) = false := eqF (by omega)
  clear h h'
  go_enter Tryd.func87, Tryd.ntmps87
  go_wp2_with fail
  go_ret
  exact stSame (HB.out) (HO.out) (Keeps.refl _ _)

set_option maxRecDepth 100000 in
theorem inside_high (w : World) (S : Nat → Prop) (g : Nat) (s : St) (hs : StAt w S g s) (c : Nat) (h : 244 < c) :
    Calls Tryd.prog 87 #[.pointer (some ⟨g, 3, none⟩), .int .u8 c] w (StPost w S g s false) := by
  obtain ⟨v, hb, ho, rfl⟩ := hs
  have HB := Lib.hid hb
  have HO := Lib.hid ho
  clear hb ho
  have h1 : 244 < (c : Int) := by omega
  have q1 : ((c : Int) == 34) = false := eqF (by omega)
  have q2 : ((c : Int) == 92) = false := eqF (by omega)
  clear h
  go_enter Tryd.func87, Tryd.ntmps87
  go_wp2_with fail
  go_ret
  exact stSame (HB.out) (HO.out) (Keeps.refl _ _)

set_option maxRecDepth 100000 in
set_option maxHeartbeats 6000000 in
theorem inside_ascii (w : World) (S : Nat → Prop) (g : Nat) (s : St) (hs : StAt w S g s) (hl : s.text.length ≤ 140737488355000) (c : Nat) (h : 32 ≤ c) (h' : c < 128) (h1 : c ≠ 34) (h2 : c ≠ 92) :
    Calls Tryd.prog 87 #[.pointer (some ⟨g, 3, none⟩), .int .u8 (c)] w (StPost w S g { s with text := s.text ++ [c] } true) := by
  obtain ⟨v, hb, ho, rfl⟩ := hs
  have hn := StAt.ne hb ho
  have HB := Lib.hid hb
  have HO := Lib.hid ho
  have HN := Lib.hid hn
  have HL := Lib.hid hl
  have c6 := hb.cell 9
  unfold stCells at c6
  obtain ⟨i0, hi, hz0, hz1, hz2⟩ := info_parts info_u8
  have HP1 := Lib.hid (ho.alloc (.cells #[.int .u8 (c)] 5))
  clear hb ho hn hl
  have k1 : 32 ≤ (c : Int) := by omega
  have k2 : (c : Int) < 128 := by omega
  have q1 : ((c : Int) == 34) = false := eqF (by omega)
  have q2 : ((c : Int) == 92) = false := eqF (by omega)
  clear h h' h1 h2
  go_enter Tryd.func87, Tryd.ntmps87
  go_wp2_with (at_builtin; refine wpList_append_any _ rfl _ _ 35 rfl 0 5 i0 (.int .u8 0) 1 1 Tryd.underlying35 hi hz0 hz1 hz2 rfl (by decide) _ _ _ rfl HP1.out (w.heap.size + 1) (some ⟨w.heap.size, 0, none⟩) 1 1 [.int .u8 (c)] rfl ?c1 ?c2 ?c3 ?c4 ?c5 ?_)
  case c1 => exact ⟨rfl, fun _ => ⟨_, rfl, by simp, one_cell_new _ _ _⟩⟩
  case c2 => first | (intro u hu; simp at hu; subst hu; rfl) | rfl
  case c3 => unfold maxLen; have := HL.out; omega
  case c4 => have := HL.out; omega
  (try case c5 => exact Nat.zero_le _)
  intro v2 w2 hown2 hg2 hor
  obtain ⟨A2, k2, rfl, -, -, -, -⟩ := own_rd hown2
  have hb2 := (HB.out.alloc (.cells #[.int .u8 (c)] 5)).grown hg2 (fun k => HN.out k.symm)
  have hl2 := ((Keeps.refl (SO g v) w).alloc (.cells #[.int .u8 (c)] 5)).grown hg2 (fun k h => .inl (.inr h))
  have HFR := Lib.hid (fr_of (g := g) (a := w) hor (by simp))
  have HN2 := Lib.hid (StAt.ne hb2 hown2)
  have HB2 := Lib.hid hb2
  have HO2 : Hid (w2.ownsRow 0 5 1 _ (s.text ++ [c]).length (vals .u8 (s.text ++ [c]))) := Lib.hid (by rw [List.length_append, vals_snoc]; exact hown2)
  have HL2 := Lib.hid hl2
  have c0 := hb2.cell 3
  have c1 := hb2.cell 4
  have c4 := hb2.cell 7
  have c5 := hb2.cell 8
  have d6 := hb2.cell 9
  have f0 := hb2.frozen 3
  have f1 := hb2.frozen 4
  have f4 := hb2.frozen 7
  have f5 := hb2.frozen 8
  have f6 := hb2.frozen 9
  unfold stCells at c0 c1 c4 c5 d6
  clear hb2 hown2 hg2 hl2 hor c6
  go_wp2_with fail
  go_ret
  exact stNew (stText (stSet6 HB2.out _) (s.text ++ [c])) (own_far' HO2.out HN2.out 9 _) (HL2.out.setCell (p := ⟨g, 9, none⟩) (.inl (.inl rfl)) _) HFR.out

end Go.Proofs.YtjfeebbhkolmoaaDoor.R
