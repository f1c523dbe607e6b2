/- Contract of (*crucibleref10.State).Step at the plain modes: the first quote, behind a high surrogate, the end. -/
import Derived.Test.YtiignmjglihbnaaDoorStep
namespace Go.Proofs.YtiignmjglihbnaaDoor
open Go.RowKit
set_option linter.unusedVariables false

set_option maxRecDepth 100000 in
set_option maxHeartbeats 1500000 in
theorem step_start_yes (w : World) (base g : Nat) (s : St) (hm : s.mode = 0) (hs : StAt w base g s) (hg : base ≤ g) :
    Calls Tryd.prog 28 #[.pointer (some ⟨g, 0, none⟩), .int .u8 34] w (StPost w base g { s with mode := 1 } true) := by
  obtain ⟨v, hb, ho⟩ := hs
  have HN := Lib.hid (StAt.ne hb ho)
  have HB := Lib.hid hb
  have HO := Lib.hid ho
  have c0 := hb.cell 0
  have c1 := hb.cell 1
  have c2 := hb.cell 2
  have f0 := hb.frozen 0
  have f1 := hb.frozen 1
  have f2 := hb.frozen 2
  unfold stCells at c0 c1 c2
  rw [hm] at c0
  clear hb ho hm
  go_enter Tryd.func28, Tryd.ntmps28
  go_wp2_with fail
  go_ret
  exact ⟨rfl, ⟨v, stSet0 (HB.out) 1, own_far' (HO.out) HN.out 0 _⟩, (Below.refl _ _).setCell (p := ⟨g, 0, none⟩) hg _, by simp⟩

set_option maxRecDepth 100000 in
set_option maxHeartbeats 1500000 in
theorem step_start_no (w : World) (base g : Nat) (s : St) (hm : s.mode = 0) (hs : StAt w base g s) (hg : base ≤ g) (c : Nat) (h : c ≠ 34) :
    Calls Tryd.prog 28 #[.pointer (some ⟨g, 0, none⟩), .int .u8 c] w (StPost w base g { s with mode := 1 } false) := by
  obtain ⟨v, hb, ho⟩ := hs
  have HN := Lib.hid (StAt.ne hb ho)
  have HB := Lib.hid hb
  have HO := Lib.hid ho
  have c0 := hb.cell 0
  have c1 := hb.cell 1
  have c2 := hb.cell 2
  have f0 := hb.frozen 0
  have f1 := hb.frozen 1
  have f2 := hb.frozen 2
  unfold stCells at c0 c1 c2
  rw [hm] at c0
  clear hb ho hm
  have q1 : ((c : Int) == 34) = false := eqF (by omega)
  clear h
  go_enter Tryd.func28, Tryd.ntmps28
  go_wp2_with fail
  go_ret
  exact ⟨rfl, ⟨v, stSet0 (HB.out) 1, own_far' (HO.out) HN.out 0 _⟩, (Below.refl _ _).setCell (p := ⟨g, 0, none⟩) hg _, by simp⟩

set_option maxRecDepth 100000 in
set_option maxHeartbeats 1500000 in
theorem step_second_yes (w : World) (base g : Nat) (s : St) (hm : s.mode = 4) (hs : StAt w base g s) (hg : base ≤ g) :
    Calls Tryd.prog 28 #[.pointer (some ⟨g, 0, none⟩), .int .u8 92] w (StPost w base g { s with mode := 5 } true) := by
  obtain ⟨v, hb, ho⟩ := hs
  have HN := Lib.hid (StAt.ne hb ho)
  have HB := Lib.hid hb
  have HO := Lib.hid ho
  have c0 := hb.cell 0
  have c1 := hb.cell 1
  have c2 := hb.cell 2
  have f0 := hb.frozen 0
  have f1 := hb.frozen 1
  have f2 := hb.frozen 2
  unfold stCells at c0 c1 c2
  rw [hm] at c0
  clear hb ho hm
  go_enter Tryd.func28, Tryd.ntmps28
  go_wp2_with fail
  go_ret
  exact ⟨rfl, ⟨v, stSet0 (HB.out) 5, own_far' (HO.out) HN.out 0 _⟩, (Below.refl _ _).setCell (p := ⟨g, 0, none⟩) hg _, by simp⟩

set_option maxRecDepth 100000 in
set_option maxHeartbeats 1500000 in
theorem step_second_no (w : World) (base g : Nat) (s : St) (hm : s.mode = 4) (hs : StAt w base g s) (hg : base ≤ g) (c : Nat) (h : c ≠ 92) :
    Calls Tryd.prog 28 #[.pointer (some ⟨g, 0, none⟩), .int .u8 c] w (StPost w base g { s with mode := 5 } false) := by
  obtain ⟨v, hb, ho⟩ := hs
  have HN := Lib.hid (StAt.ne hb ho)
  have HB := Lib.hid hb
  have HO := Lib.hid ho
  have c0 := hb.cell 0
  have c1 := hb.cell 1
  have c2 := hb.cell 2
  have f0 := hb.frozen 0
  have f1 := hb.frozen 1
  have f2 := hb.frozen 2
  unfold stCells at c0 c1 c2
  rw [hm] at c0
  clear hb ho hm
  have q1 : ((c : Int) == 92) = false := eqF (by omega)
  clear h
  go_enter Tryd.func28, Tryd.ntmps28
  go_wp2_with fail
  go_ret
  exact ⟨rfl, ⟨v, stSet0 (HB.out) 5, own_far' (HO.out) HN.out 0 _⟩, (Below.refl _ _).setCell (p := ⟨g, 0, none⟩) hg _, by simp⟩

set_option maxRecDepth 100000 in
set_option maxHeartbeats 1500000 in
theorem step_letter_yes (w : World) (base g : Nat) (s : St) (hm : s.mode = 5) (hs : StAt w base g s) (hg : base ≤ g) :
    Calls Tryd.prog 28 #[.pointer (some ⟨g, 0, none⟩), .int .u8 117] w (StPost w base g { s with mode := 3, left := 4, number := 0 } true) := by
  obtain ⟨v, hb, ho⟩ := hs
  have HN := Lib.hid (StAt.ne hb ho)
  have HB := Lib.hid hb
  have HO := Lib.hid ho
  have c0 := hb.cell 0
  have c1 := hb.cell 1
  have c2 := hb.cell 2
  have f0 := hb.frozen 0
  have f1 := hb.frozen 1
  have f2 := hb.frozen 2
  unfold stCells at c0 c1 c2
  rw [hm] at c0
  clear hb ho hm
  go_enter Tryd.func28, Tryd.ntmps28
  go_wp2_with fail
  go_ret
  exact ⟨rfl, ⟨v, stSet2 (stSet1 (stSet0 (HB.out) 3) 4) 0, own_far' (own_far' (own_far' (HO.out) HN.out 0 _) HN.out 1 _) HN.out 2 _⟩, (((Below.refl _ _).setCell (p := ⟨g, 0, none⟩) hg _).setCell (p := ⟨g, 1, none⟩) hg _).setCell (p := ⟨g, 2, none⟩) hg _, by simp⟩

set_option maxRecDepth 100000 in
set_option maxHeartbeats 1500000 in
theorem step_letter_no (w : World) (base g : Nat) (s : St) (hm : s.mode = 5) (hs : StAt w base g s) (hg : base ≤ g) (c : Nat) (h : c ≠ 117) :
    Calls Tryd.prog 28 #[.pointer (some ⟨g, 0, none⟩), .int .u8 c] w (StPost w base g { s with mode := 3, left := 4, number := 0 } false) := by
  obtain ⟨v, hb, ho⟩ := hs
  have HN := Lib.hid (StAt.ne hb ho)
  have HB := Lib.hid hb
  have HO := Lib.hid ho
  have c0 := hb.cell 0
  have c1 := hb.cell 1
  have c2 := hb.cell 2
  have f0 := hb.frozen 0
  have f1 := hb.frozen 1
  have f2 := hb.frozen 2
  unfold stCells at c0 c1 c2
  rw [hm] at c0
  clear hb ho hm
  have q1 : ((c : Int) == 117) = false := eqF (by omega)
  clear h
  go_enter Tryd.func28, Tryd.ntmps28
  go_wp2_with fail
  go_ret
  exact ⟨rfl, ⟨v, stSet2 (stSet1 (stSet0 (HB.out) 3) 4) 0, own_far' (own_far' (own_far' (HO.out) HN.out 0 _) HN.out 1 _) HN.out 2 _⟩, (((Below.refl _ _).setCell (p := ⟨g, 0, none⟩) hg _).setCell (p := ⟨g, 1, none⟩) hg _).setCell (p := ⟨g, 2, none⟩) hg _, by simp⟩

set_option maxRecDepth 100000 in
theorem step_end (w : World) (base g : Nat) (s : St) (c : Nat) (hm : s.mode = 7) (hs : StAt w base g s) :
    Calls Tryd.prog 28 #[.pointer (some ⟨g, 0, none⟩), .int .u8 c] w (StPost w base g s false) := by
  obtain ⟨v, hb, ho⟩ := hs
  have HB := Lib.hid hb
  have HO := Lib.hid ho
  have c0 := hb.cell 0
  unfold stCells at c0
  rw [hm] at c0
  clear hb ho hm
  go_enter Tryd.func28, Tryd.ntmps28
  go_wp2_with fail
  go_ret
  exact ⟨rfl, ⟨v, HB.out, HO.out⟩, Below.refl _ _, Nat.le_refl _⟩
end Go.Proofs.YtiignmjglihbnaaDoor
