/- Contract of (*crucibleref10.State).Step at the plain modes: the first quote, behind a high surrogate, the end. -/
import Derived.Test.YtjfeebbhkolmoaaDoorR10Step
namespace Go.Proofs.YtjfeebbhkolmoaaDoor.R
open Go.RowKit
set_option linter.unusedVariables false

set_option maxRecDepth 100000 in
set_option maxHeartbeats 1500000 in
theorem step_start_yes (w : World) (S : Nat → Prop) (g : Nat) (s : St) (hm : s.mode = 0) (hs : StAt w S g s) :
    Calls Tryd.prog 74 #[.pointer (some ⟨g, 3, none⟩), .int .u8 34] w (StPost w S g { s with mode := 1 } true) := by
  obtain ⟨v, hb, ho, rfl⟩ := hs
  have HN := Lib.hid (StAt.ne hb ho)
  have HB := Lib.hid hb
  have HO := Lib.hid ho
  have c0 := hb.cell 3
  have c1 := hb.cell 4
  have c2 := hb.cell 5
  have f0 := hb.frozen 3
  have f1 := hb.frozen 4
  have f2 := hb.frozen 5
  unfold stCells at c0 c1 c2
  rw [hm] at c0
  clear hb ho hm
  go_enter Tryd.func74, Tryd.ntmps74
  go_wp2_with fail
  go_ret
  exact stSame (stSet0 (HB.out) 1) (own_far' (HO.out) HN.out 3 _) ((Keeps.refl _ _).setCell (p := ⟨g, 3, none⟩) (.inl (.inl rfl)) _)

set_option maxRecDepth 100000 in
set_option maxHeartbeats 1500000 in
theorem step_start_no (w : World) (S : Nat → Prop) (g : Nat) (s : St) (hm : s.mode = 0) (hs : StAt w S g s) (c : Nat) (h : c ≠ 34) :
    Calls Tryd.prog 74 #[.pointer (some ⟨g, 3, none⟩), .int .u8 c] w (StPost w S g { s with mode := 1 } false) := by
  obtain ⟨v, hb, ho, rfl⟩ := hs
  have HN := Lib.hid (StAt.ne hb ho)
  have HB := Lib.hid hb
  have HO := Lib.hid ho
  have c0 := hb.cell 3
  have c1 := hb.cell 4
  have c2 := hb.cell 5
  have f0 := hb.frozen 3
  have f1 := hb.frozen 4
  have f2 := hb.frozen 5
  unfold stCells at c0 c1 c2
  rw [hm] at c0
  clear hb ho hm
  have q1 : ((c : Int) == 34) = false := eqF (by omega)
  clear h
  go_enter Tryd.func74, Tryd.ntmps74
  go_wp2_with fail
  go_ret
  exact stSame (stSet0 (HB.out) 1) (own_far' (HO.out) HN.out 3 _) ((Keeps.refl _ _).setCell (p := ⟨g, 3, none⟩) (.inl (.inl rfl)) _)

set_option maxRecDepth 100000 in
set_option maxHeartbeats 1500000 in
theorem step_second_yes (w : World) (S : Nat → Prop) (g : Nat) (s : St) (hm : s.mode = 4) (hs : StAt w S g s) :
    Calls Tryd.prog 74 #[.pointer (some ⟨g, 3, none⟩), .int .u8 92] w (StPost w S g { s with mode := 5 } true) := by
  obtain ⟨v, hb, ho, rfl⟩ := hs
  have HN := Lib.hid (StAt.ne hb ho)
  have HB := Lib.hid hb
  have HO := Lib.hid ho
  have c0 := hb.cell 3
  have c1 := hb.cell 4
  have c2 := hb.cell 5
  have f0 := hb.frozen 3
  have f1 := hb.frozen 4
  have f2 := hb.frozen 5
  unfold stCells at c0 c1 c2
  rw [hm] at c0
  clear hb ho hm
  go_enter Tryd.func74, Tryd.ntmps74
  go_wp2_with fail
  go_ret
  exact stSame (stSet0 (HB.out) 5) (own_far' (HO.out) HN.out 3 _) ((Keeps.refl _ _).setCell (p := ⟨g, 3, none⟩) (.inl (.inl rfl)) _)

set_option maxRecDepth 100000 in
set_option maxHeartbeats 1500000 in
theorem step_second_no (w : World) (S : Nat → Prop) (g : Nat) (s : St) (hm : s.mode = 4) (hs : StAt w S g s) (c : Nat) (h : c ≠ 92) :
    Calls Tryd.prog 74 #[.pointer (some ⟨g, 3, none⟩), .int .u8 c] w (StPost w S g { s with mode := 5 } false) := by
  obtain ⟨v, hb, ho, rfl⟩ := hs
  have HN := Lib.hid (StAt.ne hb ho)
  have HB := Lib.hid hb
  have HO := Lib.hid ho
  have c0 := hb.cell 3
  have c1 := hb.cell 4
  have c2 := hb.cell 5
  have f0 := hb.frozen 3
  have f1 := hb.frozen 4
  have f2 := hb.frozen 5
  unfold stCells at c0 c1 c2
  rw [hm] at c0
  clear hb ho hm
  have q1 : ((c : Int) == 92) = false := eqF (by omega)
  clear h
  go_enter Tryd.func74, Tryd.ntmps74
  go_wp2_with fail
  go_ret
  exact stSame (stSet0 (HB.out) 5) (own_far' (HO.out) HN.out 3 _) ((Keeps.refl _ _).setCell (p := ⟨g, 3, none⟩) (.inl (.inl rfl)) _)

set_option maxRecDepth 100000 in
set_option maxHeartbeats 1500000 in
theorem step_letter_yes (w : World) (S : Nat → Prop) (g : Nat) (s : St) (hm : s.mode = 5) (hs : StAt w S g s) :
    Calls Tryd.prog 74 #[.pointer (some ⟨g, 3, none⟩), .int .u8 117] w (StPost w S g { s with mode := 3, left := 4, number := 0 } true) := by
  obtain ⟨v, hb, ho, rfl⟩ := hs
  have HN := Lib.hid (StAt.ne hb ho)
  have HB := Lib.hid hb
  have HO := Lib.hid ho
  have c0 := hb.cell 3
  have c1 := hb.cell 4
  have c2 := hb.cell 5
  have f0 := hb.frozen 3
  have f1 := hb.frozen 4
  have f2 := hb.frozen 5
  unfold stCells at c0 c1 c2
  rw [hm] at c0
  clear hb ho hm
  go_enter Tryd.func74, Tryd.ntmps74
  go_wp2_with fail
  go_ret
  exact stSame (stSet2 (stSet1 (stSet0 (HB.out) 3) 4) 0) (own_far' (own_far' (own_far' (HO.out) HN.out 3 _) HN.out 4 _) HN.out 5 _) ((((Keeps.refl _ _).setCell (p := ⟨g, 3, none⟩) (.inl (.inl rfl)) _).setCell (p := ⟨g, 4, none⟩) (.inl (.inl rfl)) _).setCell (p := ⟨g, 5, none⟩) (.inl (.inl rfl)) _)

set_option maxRecDepth 100000 in
set_option maxHeartbeats 1500000 in
theorem step_letter_no (w : World) (S : Nat → Prop) (g : Nat) (s : St) (hm : s.mode = 5) (hs : StAt w S g s) (c : Nat) (h : c ≠ 117) :
    Calls Tryd.prog 74 #[.pointer (some ⟨g, 3, none⟩), .int .u8 c] w (StPost w S g { s with mode := 3, left := 4, number := 0 } false) := by
  obtain ⟨v, hb, ho, rfl⟩ := hs
  have HN := Lib.hid (StAt.ne hb ho)
  have HB := Lib.hid hb
  have HO := Lib.hid ho
  have c0 := hb.cell 3
  have c1 := hb.cell 4
  have c2 := hb.cell 5
  have f0 := hb.frozen 3
  have f1 := hb.frozen 4
  have f2 := hb.frozen 5
  unfold stCells at c0 c1 c2
  rw [hm] at c0
  clear hb ho hm
  have q1 : ((c : Int) == 117) = false := eqF (by omega)
  clear h
  go_enter Tryd.func74, Tryd.ntmps74
  go_wp2_with fail
  go_ret
  exact stSame (stSet2 (stSet1 (stSet0 (HB.out) 3) 4) 0) (own_far' (own_far' (own_far' (HO.out) HN.out 3 _) HN.out 4 _) HN.out 5 _) ((((Keeps.refl _ _).setCell (p := ⟨g, 3, none⟩) (.inl (.inl rfl)) _).setCell (p := ⟨g, 4, none⟩) (.inl (.inl rfl)) _).setCell (p := ⟨g, 5, none⟩) (.inl (.inl rfl)) _)

set_option maxRecDepth 100000 in
theorem step_end (w : World) (S : Nat → Prop) (g : Nat) (s : St) (c : Nat) (hm : s.mode = 7) (hs : StAt w S g s) :
    Calls Tryd.prog 74 #[.pointer (some ⟨g, 3, none⟩), .int .u8 c] w (StPost w S g s false) := by
  obtain ⟨v, hb, ho, rfl⟩ := hs
  have HB := Lib.hid hb
  have HO := Lib.hid ho
  have c0 := hb.cell 3
  unfold stCells at c0
  rw [hm] at c0
  clear hb ho hm
  go_enter Tryd.func74, Tryd.ntmps74
  go_wp2_with fail
  go_ret
  exact stSame (HB.out) (HO.out) (Keeps.refl _ _)
end Go.Proofs.YtjfeebbhkolmoaaDoor.R
