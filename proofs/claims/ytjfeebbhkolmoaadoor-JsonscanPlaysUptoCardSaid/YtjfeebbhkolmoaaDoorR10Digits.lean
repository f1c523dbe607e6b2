/- Contract of (*crucibleref10.State).digits: the ways without an encoding. -/
import Derived.Test.YtjfeebbhkolmoaaDoorR10Digit
import Derived.Test.YtjfeebbhkolmoaaDoorR10InsideD
namespace Go.Proofs.YtjfeebbhkolmoaaDoor.R
open Go.RowKit
set_option linter.unusedVariables false

theorem digits_none (w : World) (S : Nat → Prop) (g : Nat) (s : St) (c : Nat) (hs : StAt w S g s) (hd : digZ c < 0) :
    Calls Tryd.prog 89 #[.pointer (some ⟨g, 3, none⟩), .int .u8 c] w (StPost w S g s false) := by
  have HS := Lib.hid hs
  have HD := Lib.hid (digit_any c w)
  generalize digZ c = d at *
  clear hs
  go_enter Tryd.func89, Tryd.ntmps89
  go_wp2_with fail
  refine HD.out.mono ?_
  rintro e w' ⟨rfl, rfl⟩
  go_wp2_with fail
  go_ret
  exact stStay HS.out

set_option maxRecDepth 100000 in
set_option maxHeartbeats 1500000 in
theorem digits_4z (w : World) (S : Nat → Prop) (g : Nat) (s : St) (c : Nat) (hs : StAt w S g s) (hd : 0 ≤ digZ c) (h0 : 0 ≤ s.number) (h1 : s.number ≤ 4095) (hleft : s.left = 4) (hh : s.high = 0) :
    Calls Tryd.prog 89 #[.pointer (some ⟨g, 3, none⟩), .int .u8 c] w (StPost w S g { s with number := 16 * s.number + digZ c, left := 3 } true) := by
  have HD := Lib.hid (digit_any c w)
  have hr := (digZ_range c).2
  obtain ⟨m, hm⟩ : ∃ m, m = 16 * s.number + digZ c := ⟨_, rfl⟩
  rw [← hm]
  obtain ⟨v, hb, ho, rfl⟩ := hs
  have HN := Lib.hid (StAt.ne hb ho)
  have HB := Lib.hid hb
  have HO := Lib.hid ho
  have c1 := hb.cell 4
  have c2 := hb.cell 5
  have f1 := hb.frozen 4
  have f2 := hb.frozen 5
  unfold stCells at c1 c2
  rw [hleft] at c1
  have z1 : (s.high == 0) = true := by rw [beq_iff_eq]; exact hh
  have z2 : s.high ≤ 0 := by omega
  have z3 : ¬ (0 < s.high) := by omega
  have E1 := Lib.hid (IntWalk.i64_in (16 * s.number) (by omega))
  have E2 : Hid (IntKind.i64.wrap (16 * s.number + digZ c) = m) := Lib.hid (by rw [hm]; exact IntWalk.i64_in _ (by omega))
  clear hb ho hm h0 h1 hr hleft hh
  have e1 := E1.out
  have e2 := E2.out
  generalize digZ c = d at *
  go_enter Tryd.func89, Tryd.ntmps89
  go_wp2_with fail
  refine HD.out.mono ?_
  rintro e w' ⟨rfl, rfl⟩
  go_upto_region 6 with fail
  have HB1 := Lib.hid (stSet1 (stSet2 (HB.out) m) 3)
  have HO1 := Lib.hid (own_far' (own_far' (HO.out) HN.out 5 (.int .i64 m)) HN.out 4 (.int .i64 3))
  have HBW : Hid (Keeps (SO g v) w ((w.setCell ⟨g, 5, none⟩ (.int .i64 m)).setCell ⟨g, 4, none⟩ (.int .i64 3))) := Lib.hid (((Keeps.refl _ _).setCell (p := ⟨g, 5, none⟩) (.inl (.inl rfl)) _).setCell (p := ⟨g, 4, none⟩) (.inl (.inl rfl)) _)
  have HSZ : Hid (((w.setCell ⟨g, 5, none⟩ (.int .i64 m)).setCell ⟨g, 4, none⟩ (.int .i64 3)).heap.size = w.heap.size) := Lib.hid (by simp)
  clear c1 c2 f1 f2
  generalize (w.setCell ⟨g, 5, none⟩ (.int .i64 m)).setCell ⟨g, 4, none⟩ (.int .i64 3) = w1 at *
  have d0 := HB1.out.cell 3
  have d1 := HB1.out.cell 4
  have d2 := HB1.out.cell 5
  have d3 := HB1.out.cell 6
  have g0 := HB1.out.frozen 3
  have g3 := HB1.out.frozen 6
  unfold stCells at d0 d1 d2 d3
  go_wp2_with fail
  go_ret
  exact stSame (HB1.out) (HO1.out) (HBW.out)

set_option maxRecDepth 100000 in
set_option maxHeartbeats 1500000 in
theorem digits_4p (w : World) (S : Nat → Prop) (g : Nat) (s : St) (c : Nat) (hs : StAt w S g s) (hd : 0 ≤ digZ c) (h0 : 0 ≤ s.number) (h1 : s.number ≤ 4095) (hleft : s.left = 4) (hh : 0 < s.high) (hv : 16 * s.number + digZ c = 13) :
    Calls Tryd.prog 89 #[.pointer (some ⟨g, 3, none⟩), .int .u8 c] w (StPost w S g { s with number := 16 * s.number + digZ c, left := 3 } true) := by
  have HD := Lib.hid (digit_any c w)
  have hr := (digZ_range c).2
  obtain ⟨m, hm⟩ : ∃ m, m = 16 * s.number + digZ c := ⟨_, rfl⟩
  rw [← hm]
  obtain ⟨v, hb, ho, rfl⟩ := hs
  have HN := Lib.hid (StAt.ne hb ho)
  have HB := Lib.hid hb
  have HO := Lib.hid ho
  have c1 := hb.cell 4
  have c2 := hb.cell 5
  have f1 := hb.frozen 4
  have f2 := hb.frozen 5
  unfold stCells at c1 c2
  rw [hleft] at c1
  have z1 : (s.high == 0) = false := by rw [beq_eq_false_iff_ne]; omega
  have z2 : 0 < s.high := hh
  rw [← hm] at hv
  have HV := Lib.hid hv
  have E1 := Lib.hid (IntWalk.i64_in (16 * s.number) (by omega))
  have E2 : Hid (IntKind.i64.wrap (16 * s.number + digZ c) = m) := Lib.hid (by rw [hm]; exact IntWalk.i64_in _ (by omega))
  clear hb ho hm h0 h1 hr hleft hh hv
  have e1 := E1.out
  have e2 := E2.out
  generalize digZ c = d at *
  go_enter Tryd.func89, Tryd.ntmps89
  go_wp2_with fail
  refine HD.out.mono ?_
  rintro e w' ⟨rfl, rfl⟩
  go_upto_region 6 with fail
  have HB1 := Lib.hid (stSet1 (stSet2 (HB.out) m) 3)
  have HO1 := Lib.hid (own_far' (own_far' (HO.out) HN.out 5 (.int .i64 m)) HN.out 4 (.int .i64 3))
  have HBW : Hid (Keeps (SO g v) w ((w.setCell ⟨g, 5, none⟩ (.int .i64 m)).setCell ⟨g, 4, none⟩ (.int .i64 3))) := Lib.hid (((Keeps.refl _ _).setCell (p := ⟨g, 5, none⟩) (.inl (.inl rfl)) _).setCell (p := ⟨g, 4, none⟩) (.inl (.inl rfl)) _)
  have HSZ : Hid (((w.setCell ⟨g, 5, none⟩ (.int .i64 m)).setCell ⟨g, 4, none⟩ (.int .i64 3)).heap.size = w.heap.size) := Lib.hid (by simp)
  clear c1 c2 f1 f2
  generalize (w.setCell ⟨g, 5, none⟩ (.int .i64 m)).setCell ⟨g, 4, none⟩ (.int .i64 3) = w1 at *
  have d0 := HB1.out.cell 3
  have d1 := HB1.out.cell 4
  have d2 := HB1.out.cell 5
  have d3 := HB1.out.cell 6
  have g0 := HB1.out.frozen 3
  have g3 := HB1.out.frozen 6
  unfold stCells at d0 d1 d2 d3
  rw [HV.out] at d2
  go_wp2_with fail
  go_ret
  exact stSame (HB1.out) (HO1.out) (HBW.out)

set_option maxRecDepth 100000 in
set_option maxHeartbeats 1500000 in
theorem digits_4n (w : World) (S : Nat → Prop) (g : Nat) (s : St) (c : Nat) (hs : StAt w S g s) (hd : 0 ≤ digZ c) (h0 : 0 ≤ s.number) (h1 : s.number ≤ 4095) (hleft : s.left = 4) (hh : 0 < s.high) (hv : 16 * s.number + digZ c ≠ 13) :
    Calls Tryd.prog 89 #[.pointer (some ⟨g, 3, none⟩), .int .u8 c] w (StPost w S g { s with number := 16 * s.number + digZ c, left := 3 } false) := by
  have HD := Lib.hid (digit_any c w)
  have hr := (digZ_range c).2
  obtain ⟨m, hm⟩ : ∃ m, m = 16 * s.number + digZ c := ⟨_, rfl⟩
  rw [← hm]
  obtain ⟨v, hb, ho, rfl⟩ := hs
  have HN := Lib.hid (StAt.ne hb ho)
  have HB := Lib.hid hb
  have HO := Lib.hid ho
  have c1 := hb.cell 4
  have c2 := hb.cell 5
  have f1 := hb.frozen 4
  have f2 := hb.frozen 5
  unfold stCells at c1 c2
  rw [hleft] at c1
  have z1 : (s.high == 0) = false := by rw [beq_eq_false_iff_ne]; omega
  have z2 : 0 < s.high := hh
  rw [← hm] at hv
  have z4 : ¬ (m = 13) := hv
  have E1 := Lib.hid (IntWalk.i64_in (16 * s.number) (by omega))
  have E2 : Hid (IntKind.i64.wrap (16 * s.number + digZ c) = m) := Lib.hid (by rw [hm]; exact IntWalk.i64_in _ (by omega))
  clear hb ho hm h0 h1 hr hleft hh hv
  have e1 := E1.out
  have e2 := E2.out
  generalize digZ c = d at *
  go_enter Tryd.func89, Tryd.ntmps89
  go_wp2_with fail
  refine HD.out.mono ?_
  rintro e w' ⟨rfl, rfl⟩
  go_upto_region 6 with fail
  have HB1 := Lib.hid (stSet1 (stSet2 (HB.out) m) 3)
  have HO1 := Lib.hid (own_far' (own_far' (HO.out) HN.out 5 (.int .i64 m)) HN.out 4 (.int .i64 3))
  have HBW : Hid (Keeps (SO g v) w ((w.setCell ⟨g, 5, none⟩ (.int .i64 m)).setCell ⟨g, 4, none⟩ (.int .i64 3))) := Lib.hid (((Keeps.refl _ _).setCell (p := ⟨g, 5, none⟩) (.inl (.inl rfl)) _).setCell (p := ⟨g, 4, none⟩) (.inl (.inl rfl)) _)
  have HSZ : Hid (((w.setCell ⟨g, 5, none⟩ (.int .i64 m)).setCell ⟨g, 4, none⟩ (.int .i64 3)).heap.size = w.heap.size) := Lib.hid (by simp)
  clear c1 c2 f1 f2
  generalize (w.setCell ⟨g, 5, none⟩ (.int .i64 m)).setCell ⟨g, 4, none⟩ (.int .i64 3) = w1 at *
  have d0 := HB1.out.cell 3
  have d1 := HB1.out.cell 4
  have d2 := HB1.out.cell 5
  have d3 := HB1.out.cell 6
  have g0 := HB1.out.frozen 3
  have g3 := HB1.out.frozen 6
  unfold stCells at d0 d1 d2 d3
  go_wp2_with fail
  go_ret
  exact stSame (HB1.out) (HO1.out) (HBW.out)

set_option maxRecDepth 100000 in
set_option maxHeartbeats 1500000 in
theorem digits_3za (w : World) (S : Nat → Prop) (g : Nat) (s : St) (c : Nat) (hs : StAt w S g s) (hd : 0 ≤ digZ c) (h0 : 0 ≤ s.number) (h1 : s.number ≤ 4095) (hleft : s.left = 3) (hh : s.high = 0) (hv : 16 * s.number + digZ c < 220) :
    Calls Tryd.prog 89 #[.pointer (some ⟨g, 3, none⟩), .int .u8 c] w (StPost w S g { s with number := 16 * s.number + digZ c, left := 2 } true) := by
  have HD := Lib.hid (digit_any c w)
  have hr := (digZ_range c).2
  obtain ⟨m, hm⟩ : ∃ m, m = 16 * s.number + digZ c := ⟨_, rfl⟩
  rw [← hm]
  obtain ⟨v, hb, ho, rfl⟩ := hs
  have HN := Lib.hid (StAt.ne hb ho)
  have HB := Lib.hid hb
  have HO := Lib.hid ho
  have c1 := hb.cell 4
  have c2 := hb.cell 5
  have f1 := hb.frozen 4
  have f2 := hb.frozen 5
  unfold stCells at c1 c2
  rw [hleft] at c1
  have z1 : (s.high == 0) = true := by rw [beq_iff_eq]; exact hh
  have z2 : s.high ≤ 0 := by omega
  have z3 : ¬ (0 < s.high) := by omega
  rw [← hm] at hv
  have z5 : m < 220 := hv
  have E1 := Lib.hid (IntWalk.i64_in (16 * s.number) (by omega))
  have E2 : Hid (IntKind.i64.wrap (16 * s.number + digZ c) = m) := Lib.hid (by rw [hm]; exact IntWalk.i64_in _ (by omega))
  clear hb ho hm h0 h1 hr hleft hh hv
  have e1 := E1.out
  have e2 := E2.out
  generalize digZ c = d at *
  go_enter Tryd.func89, Tryd.ntmps89
  go_wp2_with fail
  refine HD.out.mono ?_
  rintro e w' ⟨rfl, rfl⟩
  go_upto_region 6 with fail
  have HB1 := Lib.hid (stSet1 (stSet2 (HB.out) m) 2)
  have HO1 := Lib.hid (own_far' (own_far' (HO.out) HN.out 5 (.int .i64 m)) HN.out 4 (.int .i64 2))
  have HBW : Hid (Keeps (SO g v) w ((w.setCell ⟨g, 5, none⟩ (.int .i64 m)).setCell ⟨g, 4, none⟩ (.int .i64 2))) := Lib.hid (((Keeps.refl _ _).setCell (p := ⟨g, 5, none⟩) (.inl (.inl rfl)) _).setCell (p := ⟨g, 4, none⟩) (.inl (.inl rfl)) _)
  have HSZ : Hid (((w.setCell ⟨g, 5, none⟩ (.int .i64 m)).setCell ⟨g, 4, none⟩ (.int .i64 2)).heap.size = w.heap.size) := Lib.hid (by simp)
  clear c1 c2 f1 f2
  generalize (w.setCell ⟨g, 5, none⟩ (.int .i64 m)).setCell ⟨g, 4, none⟩ (.int .i64 2) = w1 at *
  have d0 := HB1.out.cell 3
  have d1 := HB1.out.cell 4
  have d2 := HB1.out.cell 5
  have d3 := HB1.out.cell 6
  have g0 := HB1.out.frozen 3
  have g3 := HB1.out.frozen 6
  unfold stCells at d0 d1 d2 d3
  go_wp2_with fail
  go_ret
  exact stSame (HB1.out) (HO1.out) (HBW.out)

set_option maxRecDepth 100000 in
set_option maxHeartbeats 1500000 in
theorem digits_3pa (w : World) (S : Nat → Prop) (g : Nat) (s : St) (c : Nat) (hs : StAt w S g s) (hd : 0 ≤ digZ c) (h0 : 0 ≤ s.number) (h1 : s.number ≤ 4095) (hleft : s.left = 3) (hh : 0 < s.high) (hv : 16 * s.number + digZ c < 220) :
    Calls Tryd.prog 89 #[.pointer (some ⟨g, 3, none⟩), .int .u8 c] w (StPost w S g { s with number := 16 * s.number + digZ c, left := 2 } false) := by
  have HD := Lib.hid (digit_any c w)
  have hr := (digZ_range c).2
  obtain ⟨m, hm⟩ : ∃ m, m = 16 * s.number + digZ c := ⟨_, rfl⟩
  rw [← hm]
  obtain ⟨v, hb, ho, rfl⟩ := hs
  have HN := Lib.hid (StAt.ne hb ho)
  have HB := Lib.hid hb
  have HO := Lib.hid ho
  have c1 := hb.cell 4
  have c2 := hb.cell 5
  have f1 := hb.frozen 4
  have f2 := hb.frozen 5
  unfold stCells at c1 c2
  rw [hleft] at c1
  have z1 : (s.high == 0) = false := by rw [beq_eq_false_iff_ne]; omega
  have z2 : 0 < s.high := hh
  rw [← hm] at hv
  have z5 : m < 220 := hv
  have E1 := Lib.hid (IntWalk.i64_in (16 * s.number) (by omega))
  have E2 : Hid (IntKind.i64.wrap (16 * s.number + digZ c) = m) := Lib.hid (by rw [hm]; exact IntWalk.i64_in _ (by omega))
  clear hb ho hm h0 h1 hr hleft hh hv
  have e1 := E1.out
  have e2 := E2.out
  generalize digZ c = d at *
  go_enter Tryd.func89, Tryd.ntmps89
  go_wp2_with fail
  refine HD.out.mono ?_
  rintro e w' ⟨rfl, rfl⟩
  go_upto_region 6 with fail
  have HB1 := Lib.hid (stSet1 (stSet2 (HB.out) m) 2)
  have HO1 := Lib.hid (own_far' (own_far' (HO.out) HN.out 5 (.int .i64 m)) HN.out 4 (.int .i64 2))
  have HBW : Hid (Keeps (SO g v) w ((w.setCell ⟨g, 5, none⟩ (.int .i64 m)).setCell ⟨g, 4, none⟩ (.int .i64 2))) := Lib.hid (((Keeps.refl _ _).setCell (p := ⟨g, 5, none⟩) (.inl (.inl rfl)) _).setCell (p := ⟨g, 4, none⟩) (.inl (.inl rfl)) _)
  have HSZ : Hid (((w.setCell ⟨g, 5, none⟩ (.int .i64 m)).setCell ⟨g, 4, none⟩ (.int .i64 2)).heap.size = w.heap.size) := Lib.hid (by simp)
  clear c1 c2 f1 f2
  generalize (w.setCell ⟨g, 5, none⟩ (.int .i64 m)).setCell ⟨g, 4, none⟩ (.int .i64 2) = w1 at *
  have d0 := HB1.out.cell 3
  have d1 := HB1.out.cell 4
  have d2 := HB1.out.cell 5
  have d3 := HB1.out.cell 6
  have g0 := HB1.out.frozen 3
  have g3 := HB1.out.frozen 6
  unfold stCells at d0 d1 d2 d3
  go_wp2_with fail
  go_ret
  exact stSame (HB1.out) (HO1.out) (HBW.out)

set_option maxRecDepth 100000 in
set_option maxHeartbeats 1500000 in
theorem digits_3zb (w : World) (S : Nat → Prop) (g : Nat) (s : St) (c : Nat) (hs : StAt w S g s) (hd : 0 ≤ digZ c) (h0 : 0 ≤ s.number) (h1 : s.number ≤ 4095) (hleft : s.left = 3) (hh : s.high = 0) (hv : 223 < 16 * s.number + digZ c) :
    Calls Tryd.prog 89 #[.pointer (some ⟨g, 3, none⟩), .int .u8 c] w (StPost w S g { s with number := 16 * s.number + digZ c, left := 2 } true) := by
  have HD := Lib.hid (digit_any c w)
  have hr := (digZ_range c).2
  obtain ⟨m, hm⟩ : ∃ m, m = 16 * s.number + digZ c := ⟨_, rfl⟩
  rw [← hm]
  obtain ⟨v, hb, ho, rfl⟩ := hs
  have HN := Lib.hid (StAt.ne hb ho)
  have HB := Lib.hid hb
  have HO := Lib.hid ho
  have c1 := hb.cell 4
  have c2 := hb.cell 5
  have f1 := hb.frozen 4
  have f2 := hb.frozen 5
  unfold stCells at c1 c2
  rw [hleft] at c1
  have z1 : (s.high == 0) = true := by rw [beq_iff_eq]; exact hh
  have z2 : s.high ≤ 0 := by omega
  have z3 : ¬ (0 < s.high) := by omega
  rw [← hm] at hv
  have z5 : 223 < m := hv
  have z6 : 220 ≤ m := by omega
  have E1 := Lib.hid (IntWalk.i64_in (16 * s.number) (by omega))
  have E2 : Hid (IntKind.i64.wrap (16 * s.number + digZ c) = m) := Lib.hid (by rw [hm]; exact IntWalk.i64_in _ (by omega))
  clear hb ho hm h0 h1 hr hleft hh hv
  have e1 := E1.out
  have e2 := E2.out
  generalize digZ c = d at *
  go_enter Tryd.func89, Tryd.ntmps89
  go_wp2_with fail
  refine HD.out.mono ?_
  rintro e w' ⟨rfl, rfl⟩
  go_upto_region 6 with fail
  have HB1 := Lib.hid (stSet1 (stSet2 (HB.out) m) 2)
  have HO1 := Lib.hid (own_far' (own_far' (HO.out) HN.out 5 (.int .i64 m)) HN.out 4 (.int .i64 2))
  have HBW : Hid (Keeps (SO g v) w ((w.setCell ⟨g, 5, none⟩ (.int .i64 m)).setCell ⟨g, 4, none⟩ (.int .i64 2))) := Lib.hid (((Keeps.refl _ _).setCell (p := ⟨g, 5, none⟩) (.inl (.inl rfl)) _).setCell (p := ⟨g, 4, none⟩) (.inl (.inl rfl)) _)
  have HSZ : Hid (((w.setCell ⟨g, 5, none⟩ (.int .i64 m)).setCell ⟨g, 4, none⟩ (.int .i64 2)).heap.size = w.heap.size) := Lib.hid (by simp)
  clear c1 c2 f1 f2
  generalize (w.setCell ⟨g, 5, none⟩ (.int .i64 m)).setCell ⟨g, 4, none⟩ (.int .i64 2) = w1 at *
  have d0 := HB1.out.cell 3
  have d1 := HB1.out.cell 4
  have d2 := HB1.out.cell 5
  have d3 := HB1.out.cell 6
  have g0 := HB1.out.frozen 3
  have g3 := HB1.out.frozen 6
  unfold stCells at d0 d1 d2 d3
  go_wp2_with fail
  go_ret
  exact stSame (HB1.out) (HO1.out) (HBW.out)

set_option maxRecDepth 100000 in
set_option maxHeartbeats 1500000 in
theorem digits_3pb (w : World) (S : Nat → Prop) (g : Nat) (s : St) (c : Nat) (hs : StAt w S g s) (hd : 0 ≤ digZ c) (h0 : 0 ≤ s.number) (h1 : s.number ≤ 4095) (hleft : s.left = 3) (hh : 0 < s.high) (hv : 223 < 16 * s.number + digZ c) :
    Calls Tryd.prog 89 #[.pointer (some ⟨g, 3, none⟩), .int .u8 c] w (StPost w S g { s with number := 16 * s.number + digZ c, left := 2 } false) := by
  have HD := Lib.hid (digit_any c w)
  have hr := (digZ_range c).2
  obtain ⟨m, hm⟩ : ∃ m, m = 16 * s.number + digZ c := ⟨_, rfl⟩
  rw [← hm]
  obtain ⟨v, hb, ho, rfl⟩ := hs
  have HN := Lib.hid (StAt.ne hb ho)
  have HB := Lib.hid hb
  have HO := Lib.hid ho
  have c1 := hb.cell 4
  have c2 := hb.cell 5
  have f1 := hb.frozen 4
  have f2 := hb.frozen 5
  unfold stCells at c1 c2
  rw [hleft] at c1
  have z1 : (s.high == 0) = false := by rw [beq_eq_false_iff_ne]; omega
  have z2 : 0 < s.high := hh
  rw [← hm] at hv
  have z5 : 223 < m := hv
  have z6 : 220 ≤ m := by omega
  have E1 := Lib.hid (IntWalk.i64_in (16 * s.number) (by omega))
  have E2 : Hid (IntKind.i64.wrap (16 * s.number + digZ c) = m) := Lib.hid (by rw [hm]; exact IntWalk.i64_in _ (by omega))
  clear hb ho hm h0 h1 hr hleft hh hv
  have e1 := E1.out
  have e2 := E2.out
  generalize digZ c = d at *
  go_enter Tryd.func89, Tryd.ntmps89
  go_wp2_with fail
  refine HD.out.mono ?_
  rintro e w' ⟨rfl, rfl⟩
  go_upto_region 6 with fail
  have HB1 := Lib.hid (stSet1 (stSet2 (HB.out) m) 2)
  have HO1 := Lib.hid (own_far' (own_far' (HO.out) HN.out 5 (.int .i64 m)) HN.out 4 (.int .i64 2))
  have HBW : Hid (Keeps (SO g v) w ((w.setCell ⟨g, 5, none⟩ (.int .i64 m)).setCell ⟨g, 4, none⟩ (.int .i64 2))) := Lib.hid (((Keeps.refl _ _).setCell (p := ⟨g, 5, none⟩) (.inl (.inl rfl)) _).setCell (p := ⟨g, 4, none⟩) (.inl (.inl rfl)) _)
  have HSZ : Hid (((w.setCell ⟨g, 5, none⟩ (.int .i64 m)).setCell ⟨g, 4, none⟩ (.int .i64 2)).heap.size = w.heap.size) := Lib.hid (by simp)
  clear c1 c2 f1 f2
  generalize (w.setCell ⟨g, 5, none⟩ (.int .i64 m)).setCell ⟨g, 4, none⟩ (.int .i64 2) = w1 at *
  have d0 := HB1.out.cell 3
  have d1 := HB1.out.cell 4
  have d2 := HB1.out.cell 5
  have d3 := HB1.out.cell 6
  have g0 := HB1.out.frozen 3
  have g3 := HB1.out.frozen 6
  unfold stCells at d0 d1 d2 d3
  go_wp2_with fail
  go_ret
  exact stSame (HB1.out) (HO1.out) (HBW.out)

set_option maxRecDepth 100000 in
set_option maxHeartbeats 1500000 in
theorem digits_3zc (w : World) (S : Nat → Prop) (g : Nat) (s : St) (c : Nat) (hs : StAt w S g s) (hd : 0 ≤ digZ c) (h0 : 0 ≤ s.number) (h1 : s.number ≤ 4095) (hleft : s.left = 3) (hh : s.high = 0) (hv : 220 ≤ 16 * s.number + digZ c ∧ 16 * s.number + digZ c ≤ 223) :
    Calls Tryd.prog 89 #[.pointer (some ⟨g, 3, none⟩), .int .u8 c] w (StPost w S g { s with number := 16 * s.number + digZ c, left := 2 } false) := by
  have HD := Lib.hid (digit_any c w)
  have hr := (digZ_range c).2
  obtain ⟨m, hm⟩ : ∃ m, m = 16 * s.number + digZ c := ⟨_, rfl⟩
  rw [← hm]
  obtain ⟨v, hb, ho, rfl⟩ := hs
  have HN := Lib.hid (StAt.ne hb ho)
  have HB := Lib.hid hb
  have HO := Lib.hid ho
  have c1 := hb.cell 4
  have c2 := hb.cell 5
  have f1 := hb.frozen 4
  have f2 := hb.frozen 5
  unfold stCells at c1 c2
  rw [hleft] at c1
  have z1 : (s.high == 0) = true := by rw [beq_iff_eq]; exact hh
  have z2 : s.high ≤ 0 := by omega
  have z3 : ¬ (0 < s.high) := by omega
  rw [← hm] at hv
  have z5 : 220 ≤ m := hv.1
  have z6 : m ≤ 223 := hv.2
  have E1 := Lib.hid (IntWalk.i64_in (16 * s.number) (by omega))
  have E2 : Hid (IntKind.i64.wrap (16 * s.number + digZ c) = m) := Lib.hid (by rw [hm]; exact IntWalk.i64_in _ (by omega))
  clear hb ho hm h0 h1 hr hleft hh hv
  have e1 := E1.out
  have e2 := E2.out
  generalize digZ c = d at *
  go_enter Tryd.func89, Tryd.ntmps89
  go_wp2_with fail
  refine HD.out.mono ?_
  rintro e w' ⟨rfl, rfl⟩
  go_upto_region 6 with fail
  have HB1 := Lib.hid (stSet1 (stSet2 (HB.out) m) 2)
  have HO1 := Lib.hid (own_far' (own_far' (HO.out) HN.out 5 (.int .i64 m)) HN.out 4 (.int .i64 2))
  have HBW : Hid (Keeps (SO g v) w ((w.setCell ⟨g, 5, none⟩ (.int .i64 m)).setCell ⟨g, 4, none⟩ (.int .i64 2))) := Lib.hid (((Keeps.refl _ _).setCell (p := ⟨g, 5, none⟩) (.inl (.inl rfl)) _).setCell (p := ⟨g, 4, none⟩) (.inl (.inl rfl)) _)
  have HSZ : Hid (((w.setCell ⟨g, 5, none⟩ (.int .i64 m)).setCell ⟨g, 4, none⟩ (.int .i64 2)).heap.size = w.heap.size) := Lib.hid (by simp)
  clear c1 c2 f1 f2
  generalize (w.setCell ⟨g, 5, none⟩ (.int .i64 m)).setCell ⟨g, 4, none⟩ (.int .i64 2) = w1 at *
  have d0 := HB1.out.cell 3
  have d1 := HB1.out.cell 4
  have d2 := HB1.out.cell 5
  have d3 := HB1.out.cell 6
  have g0 := HB1.out.frozen 3
  have g3 := HB1.out.frozen 6
  unfold stCells at d0 d1 d2 d3
  go_wp2_with fail
  go_ret
  exact stSame (HB1.out) (HO1.out) (HBW.out)

set_option maxRecDepth 100000 in
set_option maxHeartbeats 1500000 in
theorem digits_3pc (w : World) (S : Nat → Prop) (g : Nat) (s : St) (c : Nat) (hs : StAt w S g s) (hd : 0 ≤ digZ c) (h0 : 0 ≤ s.number) (h1 : s.number ≤ 4095) (hleft : s.left = 3) (hh : 0 < s.high) (hv : 220 ≤ 16 * s.number + digZ c ∧ 16 * s.number + digZ c ≤ 223) :
    Calls Tryd.prog 89 #[.pointer (some ⟨g, 3, none⟩), .int .u8 c] w (StPost w S g { s with number := 16 * s.number + digZ c, left := 2 } true) := by
  have HD := Lib.hid (digit_any c w)
  have hr := (digZ_range c).2
  obtain ⟨m, hm⟩ : ∃ m, m = 16 * s.number + digZ c := ⟨_, rfl⟩
  rw [← hm]
  obtain ⟨v, hb, ho, rfl⟩ := hs
  have HN := Lib.hid (StAt.ne hb ho)
  have HB := Lib.hid hb
  have HO := Lib.hid ho
  have c1 := hb.cell 4
  have c2 := hb.cell 5
  have f1 := hb.frozen 4
  have f2 := hb.frozen 5
  unfold stCells at c1 c2
  rw [hleft] at c1
  have z1 : (s.high == 0) = false := by rw [beq_eq_false_iff_ne]; omega
  have z2 : 0 < s.high := hh
  rw [← hm] at hv
  have z5 : 220 ≤ m := hv.1
  have z6 : m ≤ 223 := hv.2
  have E1 := Lib.hid (IntWalk.i64_in (16 * s.number) (by omega))
  have E2 : Hid (IntKind.i64.wrap (16 * s.number + digZ c) = m) := Lib.hid (by rw [hm]; exact IntWalk.i64_in _ (by omega))
  clear hb ho hm h0 h1 hr hleft hh hv
  have e1 := E1.out
  have e2 := E2.out
  generalize digZ c = d at *
  go_enter Tryd.func89, Tryd.ntmps89
  go_wp2_with fail
  refine HD.out.mono ?_
  rintro e w' ⟨rfl, rfl⟩
  go_upto_region 6 with fail
  have HB1 := Lib.hid (stSet1 (stSet2 (HB.out) m) 2)
  have HO1 := Lib.hid (own_far' (own_far' (HO.out) HN.out 5 (.int .i64 m)) HN.out 4 (.int .i64 2))
  have HBW : Hid (Keeps (SO g v) w ((w.setCell ⟨g, 5, none⟩ (.int .i64 m)).setCell ⟨g, 4, none⟩ (.int .i64 2))) := Lib.hid (((Keeps.refl _ _).setCell (p := ⟨g, 5, none⟩) (.inl (.inl rfl)) _).setCell (p := ⟨g, 4, none⟩) (.inl (.inl rfl)) _)
  have HSZ : Hid (((w.setCell ⟨g, 5, none⟩ (.int .i64 m)).setCell ⟨g, 4, none⟩ (.int .i64 2)).heap.size = w.heap.size) := Lib.hid (by simp)
  clear c1 c2 f1 f2
  generalize (w.setCell ⟨g, 5, none⟩ (.int .i64 m)).setCell ⟨g, 4, none⟩ (.int .i64 2) = w1 at *
  have d0 := HB1.out.cell 3
  have d1 := HB1.out.cell 4
  have d2 := HB1.out.cell 5
  have d3 := HB1.out.cell 6
  have g0 := HB1.out.frozen 3
  have g3 := HB1.out.frozen 6
  unfold stCells at d0 d1 d2 d3
  go_wp2_with fail
  go_ret
  exact stSame (HB1.out) (HO1.out) (HBW.out)

set_option maxRecDepth 100000 in
set_option maxHeartbeats 1500000 in
theorem digits_2z (w : World) (S : Nat → Prop) (g : Nat) (s : St) (c : Nat) (hs : StAt w S g s) (hd : 0 ≤ digZ c) (h0 : 0 ≤ s.number) (h1 : s.number ≤ 4095) (hleft : s.left = 2) (hh : s.high = 0) :
    Calls Tryd.prog 89 #[.pointer (some ⟨g, 3, none⟩), .int .u8 c] w (StPost w S g { s with number := 16 * s.number + digZ c, left := 1 } true) := by
  have HD := Lib.hid (digit_any c w)
  have hr := (digZ_range c).2
  obtain ⟨m, hm⟩ : ∃ m, m = 16 * s.number + digZ c := ⟨_, rfl⟩
  rw [← hm]
  obtain ⟨v, hb, ho, rfl⟩ := hs
  have HN := Lib.hid (StAt.ne hb ho)
  have HB := Lib.hid hb
  have HO := Lib.hid ho
  have c1 := hb.cell 4
  have c2 := hb.cell 5
  have f1 := hb.frozen 4
  have f2 := hb.frozen 5
  unfold stCells at c1 c2
  rw [hleft] at c1
  have z1 : (s.high == 0) = true := by rw [beq_iff_eq]; exact hh
  have z2 : s.high ≤ 0 := by omega
  have z3 : ¬ (0 < s.high) := by omega
  have E1 := Lib.hid (IntWalk.i64_in (16 * s.number) (by omega))
  have E2 : Hid (IntKind.i64.wrap (16 * s.number + digZ c) = m) := Lib.hid (by rw [hm]; exact IntWalk.i64_in _ (by omega))
  clear hb ho hm h0 h1 hr hleft hh
  have e1 := E1.out
  have e2 := E2.out
  generalize digZ c = d at *
  go_enter Tryd.func89, Tryd.ntmps89
  go_wp2_with fail
  refine HD.out.mono ?_
  rintro e w' ⟨rfl, rfl⟩
  go_upto_region 6 with fail
  have HB1 := Lib.hid (stSet1 (stSet2 (HB.out) m) 1)
  have HO1 := Lib.hid (own_far' (own_far' (HO.out) HN.out 5 (.int .i64 m)) HN.out 4 (.int .i64 1))
  have HBW : Hid (Keeps (SO g v) w ((w.setCell ⟨g, 5, none⟩ (.int .i64 m)).setCell ⟨g, 4, none⟩ (.int .i64 1))) := Lib.hid (((Keeps.refl _ _).setCell (p := ⟨g, 5, none⟩) (.inl (.inl rfl)) _).setCell (p := ⟨g, 4, none⟩) (.inl (.inl rfl)) _)
  have HSZ : Hid (((w.setCell ⟨g, 5, none⟩ (.int .i64 m)).setCell ⟨g, 4, none⟩ (.int .i64 1)).heap.size = w.heap.size) := Lib.hid (by simp)
  clear c1 c2 f1 f2
  generalize (w.setCell ⟨g, 5, none⟩ (.int .i64 m)).setCell ⟨g, 4, none⟩ (.int .i64 1) = w1 at *
  have d0 := HB1.out.cell 3
  have d1 := HB1.out.cell 4
  have d2 := HB1.out.cell 5
  have d3 := HB1.out.cell 6
  have g0 := HB1.out.frozen 3
  have g3 := HB1.out.frozen 6
  unfold stCells at d0 d1 d2 d3
  go_wp2_with fail
  go_ret
  exact stSame (HB1.out) (HO1.out) (HBW.out)

set_option maxRecDepth 100000 in
set_option maxHeartbeats 1500000 in
theorem digits_2p (w : World) (S : Nat → Prop) (g : Nat) (s : St) (c : Nat) (hs : StAt w S g s) (hd : 0 ≤ digZ c) (h0 : 0 ≤ s.number) (h1 : s.number ≤ 4095) (hleft : s.left = 2) (hh : 0 < s.high) :
    Calls Tryd.prog 89 #[.pointer (some ⟨g, 3, none⟩), .int .u8 c] w (StPost w S g { s with number := 16 * s.number + digZ c, left := 1 } true) := by
  have HD := Lib.hid (digit_any c w)
  have hr := (digZ_range c).2
  obtain ⟨m, hm⟩ : ∃ m, m = 16 * s.number + digZ c := ⟨_, rfl⟩
  rw [← hm]
  obtain ⟨v, hb, ho, rfl⟩ := hs
  have HN := Lib.hid (StAt.ne hb ho)
  have HB := Lib.hid hb
  have HO := Lib.hid ho
  have c1 := hb.cell 4
  have c2 := hb.cell 5
  have f1 := hb.frozen 4
  have f2 := hb.frozen 5
  unfold stCells at c1 c2
  rw [hleft] at c1
  have z1 : (s.high == 0) = false := by rw [beq_eq_false_iff_ne]; omega
  have z2 : 0 < s.high := hh
  have E1 := Lib.hid (IntWalk.i64_in (16 * s.number) (by omega))
  have E2 : Hid (IntKind.i64.wrap (16 * s.number + digZ c) = m) := Lib.hid (by rw [hm]; exact IntWalk.i64_in _ (by omega))
  clear hb ho hm h0 h1 hr hleft hh
  have e1 := E1.out
  have e2 := E2.out
  generalize digZ c = d at *
  go_enter Tryd.func89, Tryd.ntmps89
  go_wp2_with fail
  refine HD.out.mono ?_
  rintro e w' ⟨rfl, rfl⟩
  go_upto_region 6 with fail
  have HB1 := Lib.hid (stSet1 (stSet2 (HB.out) m) 1)
  have HO1 := Lib.hid (own_far' (own_far' (HO.out) HN.out 5 (.int .i64 m)) HN.out 4 (.int .i64 1))
  have HBW : Hid (Keeps (SO g v) w ((w.setCell ⟨g, 5, none⟩ (.int .i64 m)).setCell ⟨g, 4, none⟩ (.int .i64 1))) := Lib.hid (((Keeps.refl _ _).setCell (p := ⟨g, 5, none⟩) (.inl (.inl rfl)) _).setCell (p := ⟨g, 4, none⟩) (.inl (.inl rfl)) _)
  have HSZ : Hid (((w.setCell ⟨g, 5, none⟩ (.int .i64 m)).setCell ⟨g, 4, none⟩ (.int .i64 1)).heap.size = w.heap.size) := Lib.hid (by simp)
  clear c1 c2 f1 f2
  generalize (w.setCell ⟨g, 5, none⟩ (.int .i64 m)).setCell ⟨g, 4, none⟩ (.int .i64 1) = w1 at *
  have d0 := HB1.out.cell 3
  have d1 := HB1.out.cell 4
  have d2 := HB1.out.cell 5
  have d3 := HB1.out.cell 6
  have g0 := HB1.out.frozen 3
  have g3 := HB1.out.frozen 6
  unfold stCells at d0 d1 d2 d3
  go_wp2_with fail
  go_ret
  exact stSame (HB1.out) (HO1.out) (HBW.out)

set_option maxRecDepth 100000 in
set_option maxHeartbeats 1500000 in
theorem digits_1s (w : World) (S : Nat → Prop) (g : Nat) (s : St) (c : Nat) (hs : StAt w S g s) (hd : 0 ≤ digZ c) (h0 : 0 ≤ s.number) (h1 : s.number ≤ 4095) (hleft : s.left = 1) (hh : s.high = 0) (hv : 55296 ≤ 16 * s.number + digZ c ∧ 16 * s.number + digZ c ≤ 56319) :
    Calls Tryd.prog 89 #[.pointer (some ⟨g, 3, none⟩), .int .u8 c] w (StPost w S g { s with number := 16 * s.number + digZ c, left := 0, mode := 4, high := 16 * s.number + digZ c } true) := by
  have HD := Lib.hid (digit_any c w)
  have hr := (digZ_range c).2
  obtain ⟨m, hm⟩ : ∃ m, m = 16 * s.number + digZ c := ⟨_, rfl⟩
  rw [← hm]
  obtain ⟨v, hb, ho, rfl⟩ := hs
  have HN := Lib.hid (StAt.ne hb ho)
  have HB := Lib.hid hb
  have HO := Lib.hid ho
  have c1 := hb.cell 4
  have c2 := hb.cell 5
  have f1 := hb.frozen 4
  have f2 := hb.frozen 5
  unfold stCells at c1 c2
  rw [hleft] at c1
  have z1 : (s.high == 0) = true := by rw [beq_iff_eq]; exact hh
  have z2 : s.high ≤ 0 := by omega
  have z3 : ¬ (0 < s.high) := by omega
  rw [← hm] at hv
  have z5 : 55296 ≤ m := hv.1
  have z6 : m ≤ 56319 := hv.2
  have E1 := Lib.hid (IntWalk.i64_in (16 * s.number) (by omega))
  have E2 : Hid (IntKind.i64.wrap (16 * s.number + digZ c) = m) := Lib.hid (by rw [hm]; exact IntWalk.i64_in _ (by omega))
  clear hb ho hm h0 h1 hr hleft hh hv
  have e1 := E1.out
  have e2 := E2.out
  generalize digZ c = d at *
  go_enter Tryd.func89, Tryd.ntmps89
  go_wp2_with fail
  refine HD.out.mono ?_
  rintro e w' ⟨rfl, rfl⟩
  go_upto_region 6 with fail
  have HB1 := Lib.hid (stSet1 (stSet2 (HB.out) m) 0)
  have HO1 := Lib.hid (own_far' (own_far' (HO.out) HN.out 5 (.int .i64 m)) HN.out 4 (.int .i64 0))
  have HBW : Hid (Keeps (SO g v) w ((w.setCell ⟨g, 5, none⟩ (.int .i64 m)).setCell ⟨g, 4, none⟩ (.int .i64 0))) := Lib.hid (((Keeps.refl _ _).setCell (p := ⟨g, 5, none⟩) (.inl (.inl rfl)) _).setCell (p := ⟨g, 4, none⟩) (.inl (.inl rfl)) _)
  have HSZ : Hid (((w.setCell ⟨g, 5, none⟩ (.int .i64 m)).setCell ⟨g, 4, none⟩ (.int .i64 0)).heap.size = w.heap.size) := Lib.hid (by simp)
  clear c1 c2 f1 f2
  generalize (w.setCell ⟨g, 5, none⟩ (.int .i64 m)).setCell ⟨g, 4, none⟩ (.int .i64 0) = w1 at *
  have d0 := HB1.out.cell 3
  have d1 := HB1.out.cell 4
  have d2 := HB1.out.cell 5
  have d3 := HB1.out.cell 6
  have g0 := HB1.out.frozen 3
  have g3 := HB1.out.frozen 6
  unfold stCells at d0 d1 d2 d3
  go_wp2_with fail
  go_ret
  exact stSame (stSet0 (stSet3 (stSet0 HB1.out 1) m) 4) (own_far' (own_far' (own_far' HO1.out HN.out 3 _) HN.out 6 _) HN.out 3 _) (((HBW.out.setCell (p := ⟨g, 3, none⟩) (.inl (.inl rfl)) _).setCell (p := ⟨g, 6, none⟩) (.inl (.inl rfl)) _).setCell (p := ⟨g, 3, none⟩) (.inl (.inl rfl)) _)
end Go.Proofs.YtjfeebbhkolmoaaDoor.R
