/- crucibleref16's Scanner: blank, word, literal, closes. -/
import Derived.Test.YtjfeebbhkolmoaaDoorR10StepAll
namespace Go.Proofs.YtjfeebbhkolmoaaDoor.R
open Go.RowKit
set_option linter.unusedVariables false

theorem StAt.put {w : World} {S : Nat → Prop} {g : Nat} {s : St} (h : StAt w S g s) (i : Nat) (u : Value) (s' : St) (hc : ∀ v, (stCells s v).setIfInBounds i u = stCells s' v) (ht : s'.text = s.text) : StAt (w.setCell ⟨g, i, none⟩ u) S g s' := by
  obtain ⟨v, hb, hw, hS⟩ := h
  refine ⟨v, ?_, ?_, hS⟩
  · rw [← hc v]; exact hb.set_ i u
  · rw [ht]; exact own_far' hw (StAt.ne hb hw) i u
theorem StAt.cell {w : World} {S : Nat → Prop} {g : Nat} {s : St} (h : StAt w S g s) (i : Nat) (u : Value) (hc : ∀ v, (stCells s v)[i]? = some u) : w.cell? ⟨g, i, none⟩ = some u := by
  obtain ⟨v, hb, hw, hS⟩ := h
  rw [← hc v]; exact hb.cell i
theorem StAt.fz {w : World} {S : Nat → Prop} {g : Nat} {s : St} (h : StAt w S g s) (i : Nat) : w.frozen? ⟨g, i, none⟩ = false := by
  obtain ⟨v, hb, hw, hS⟩ := h
  exact hb.frozen i
theorem StAt.mem {w : World} {S : Nat → Prop} {g : Nat} {s : St} (h : StAt w S g s) : S g := by
  obtain ⟨v, hb, hw, rfl⟩ := h
  exact .inl rfl
theorem StAt.lt {w : World} {S : Nat → Prop} {g : Nat} {s : St} (h : StAt w S g s) : ∀ i, S i → i < w.heap.size := by
  obtain ⟨v, hb, hw, rfl⟩ := h
  rintro i (rfl | h)
  · exact hb.lt
  · exact (hw.lt i h).2
theorem StAt.drewN {w : World} {S : Nat → Prop} {g : Nat} {s : St} (h : StAt w S g s) (n : Nat) : StAt (w.drewN n) S g s := h
theorem StAt.keeps {w w' : World} {S T : Nat → Prop} {g : Nat} {s : St} (h : StAt w S g s) (hk : Keeps T w w') (hn : ∀ i, S i → ¬ T i) : StAt w' S g s := by
  obtain ⟨v, hb, hw, rfl⟩ := h
  exact ⟨v, hk.blk hb (hn g (.inl rfl)), own_keeps hw hk (fun i hi => hn i (.inr hi)), rfl⟩
theorem StLeft.refl {w : World} {S : Nat → Prop} {g : Nat} {s : St} (h : StAt w S g s) : StLeft w S g s w := ⟨S, h, Keeps.refl _ _, Fresh.refl _ _⟩
theorem StLeft.trans {w w1 w2 : World} {S : Nat → Prop} {g : Nat} {s1 s : St} {S1 : Nat → Prop} (hk : Keeps S w w1) (hf : Fresh w S S1) (h : StLeft w1 S1 g s w2) : StLeft w S g s w2 := by
  obtain ⟨S2, h1, h2, h3⟩ := h
  exact ⟨S2, h1, hk.trans h2 hf, hf.trans hk h3⟩
/-- a store into a field -/
theorem StAt.left {w : World} {S : Nat → Prop} {g : Nat} {s s' : St} {i : Nat} {u : Value} (h : StAt w S g s) (h' : StAt (w.setCell ⟨g, i, none⟩ u) S g s') : StLeft w S g s' (w.setCell ⟨g, i, none⟩ u) :=
  ⟨S, h', (Keeps.refl _ w).setCell (p := ⟨g, i, none⟩) (.inl h.mem) _, Fresh.refl _ _⟩

def blankR (c : Nat) : Bool := decide (c = 9 ∨ c = 10 ∨ c = 13 ∨ c = 32)
set_option maxRecDepth 100000 in
theorem rblank_any (c : Nat) (w : World) : Calls Tryd.prog 76 #[.int .u8 c] w fun e w' => e = .returned (.bool (blankR c)) ∧ w = w' := by
  unfold blankR
  by_cases h1 : c = 9
  · subst h1
    go_enter Tryd.func76, Tryd.ntmps76
    go_wp2_with fail
    go_ret
    exact ⟨rfl, rfl⟩
  by_cases h2 : c = 10
  · subst h2
    go_enter Tryd.func76, Tryd.ntmps76
    go_wp2_with fail
    go_ret
    exact ⟨rfl, rfl⟩
  by_cases h3 : c = 13
  · subst h3
    go_enter Tryd.func76, Tryd.ntmps76
    go_wp2_with fail
    go_ret
    exact ⟨rfl, rfl⟩
  by_cases h4 : c = 32
  · subst h4
    go_enter Tryd.func76, Tryd.ntmps76
    go_wp2_with fail
    go_ret
    exact ⟨rfl, rfl⟩
  rw [show decide (c = 9 ∨ c = 10 ∨ c = 13 ∨ c = 32) = false from decide_eq_false (by omega)]
  have q1 : ((c : Int) == 9) = false := eqF (by omega)
  have q2 : ((c : Int) == 10) = false := eqF (by omega)
  have q3 : ((c : Int) == 13) = false := eqF (by omega)
  have q4 : ((c : Int) == 32) = false := eqF (by omega)
  clear h1 h2 h3 h4
  go_enter Tryd.func76, Tryd.ntmps76
  go_wp2_with fail
  go_ret
  exact ⟨rfl, rfl⟩

/-- the Scanner's own fields -/
def setM (s : St) (m : Nat) : St := { s with o := { s.o with mode := m } }
def setW (s : St) (b : ByteArray) : St := { s with o := { s.o with rest := b } }
def setO (s : St) (b : ByteArray) : St := { s with o := { s.o with open_ := b } }
def setK (s : St) (b : Bool) : St := { s with o := { s.o with keys := b } }
/-- a method that returns an error's number -/
def NumPost (w : World) (S : Nat → Prop) (g : Nat) (r : St × Nat) (e : Ending) (w' : World) : Prop := e = .returned (.int .i64 (r.2 : Nat)) ∧ StLeft w S g r.1 w'

set_option maxRecDepth 100000 in
theorem rword_any (w : World) (S : Nat → Prop) (g : Nat) (s : St) (b : ByteArray) (hs : StAt w S g s) :
    Calls Tryd.prog 98 #[.pointer (some ⟨g, 0, none⟩), .string b] w (NumPost w S g (setW (setM s 7) b, 0)) := by
  have f1 := hs.fz 1
  have f11 := hs.fz 11
  have d1 := hs.cell 1 (.int .i64 (s.o.mode : Nat)) (fun _ => rfl)
  have d11 := hs.cell 11 (.string s.o.rest) (fun _ => rfl)
  have HS := Lib.hid hs
  have H1 := Lib.hid (hs.put 1 (.int .i64 7) (setM s 7) (fun _ => rfl) rfl)
  have H2 := Lib.hid (H1.out.put 11 (.string b) (setW (setM s 7) b) (fun _ => rfl) rfl)
  clear hs
  go_enter Tryd.func98, Tryd.ntmps98
  go_wp2_with fail
  go_ret
  exact ⟨rfl, S, H2.out, ((Keeps.refl _ w).setCell (p := ⟨g, 1, none⟩) (.inl HS.out.mem) _).setCell (p := ⟨g, 11, none⟩) (.inl HS.out.mem) _, Fresh.refl _ _⟩

/-- a literal begins -/
def pLit (s : St) (k : Bool) : St := { o := { s.o with keys := k, mode := 6 }, mode := 1, left := 0, number := 0, high := 0, low := 0, most := 0, text := [] }
theorem lit_cells (s : St) (v : Value) (k : Bool) : (((((((((stCells s v).setIfInBounds 10 (.bool k)).setIfInBounds 1 (.int .i64 6)).setIfInBounds 3 (.int .i64 1)).setIfInBounds 4 (.int .i64 0)).setIfInBounds 5 (.int .i64 0)).setIfInBounds 6 (.int .i64 0)).setIfInBounds 7 (.int .u8 0)).setIfInBounds 8 (.int .u8 0)).setIfInBounds 9 (.slice none 0 0) = stCells (pLit s k) (.slice none 0 0) := by
  unfold stCells pLit
  simp
set_option maxRecDepth 100000 in
set_option maxHeartbeats 1500000 in
theorem rliteral_any (w : World) (S : Nat → Prop) (g : Nat) (s : St) (k : Bool) (hs : StAt w S g s) :
    Calls Tryd.prog 91 #[.pointer (some ⟨g, 0, none⟩), .bool k] w (NumPost w S g (pLit s k, 0)) := by
  obtain ⟨v, hb, ho, rfl⟩ := hs
  have HB := Lib.hid hb
  have f10 := hb.frozen 10
  have f1 := hb.frozen 1
  have f3 := hb.frozen 3
  have f4 := hb.frozen 4
  have f5 := hb.frozen 5
  have f6 := hb.frozen 6
  have f7 := hb.frozen 7
  have f8 := hb.frozen 8
  have f9 := hb.frozen 9
  have d10 := hb.cell 10
  have d1 := hb.cell 1
  have d3 := hb.cell 3
  have d4 := hb.cell 4
  have d5 := hb.cell 5
  have d6 := hb.cell 6
  have d7 := hb.cell 7
  have d8 := hb.cell 8
  have d9 := hb.cell 9
  unfold stCells at d10 d1 d3 d4 d5 d6 d7 d8 d9
  have HBE := Lib.hid (((((((((HB.out.set_ 10 (.bool k)).set_ 1 (.int .i64 6)).set_ 3 (.int .i64 1)).set_ 4 (.int .i64 0)).set_ 5 (.int .i64 0)).set_ 6 (.int .i64 0)).set_ 7 (.int .u8 0)).set_ 8 (.int .u8 0)).set_ 9 (.slice none 0 0))
  rw [lit_cells] at HBE
  clear hb ho
  go_enter Tryd.func91, Tryd.ntmps91
  go_wp2_with fail
  go_ret
  refine ⟨rfl, SO g (.slice none 0 0), ⟨.slice none 0 0, HBE.out, ⟨rfl, .inl ⟨rfl, rfl⟩⟩, rfl⟩, ?_, ?_⟩
  · exact (((((((((Keeps.refl (SO g v) w).setCell (p := ⟨g, 10, none⟩) (.inl (.inl rfl)) _).setCell (p := ⟨g, 1, none⟩) (.inl (.inl rfl)) _).setCell (p := ⟨g, 3, none⟩) (.inl (.inl rfl)) _).setCell (p := ⟨g, 4, none⟩) (.inl (.inl rfl)) _).setCell (p := ⟨g, 5, none⟩) (.inl (.inl rfl)) _).setCell (p := ⟨g, 6, none⟩) (.inl (.inl rfl)) _).setCell (p := ⟨g, 7, none⟩) (.inl (.inl rfl)) _).setCell (p := ⟨g, 8, none⟩) (.inl (.inl rfl)) _).setCell (p := ⟨g, 9, none⟩) (.inl (.inl rfl)) _
  · rintro i (rfl | h)
    · exact .inl (.inl rfl)
    · exact absurd h (by simp [Value.ownBlock])

end Go.Proofs.YtjfeebbhkolmoaaDoor.R
