/- The contract of (*crucibleref10.State).inside, its arms (A). -/
import Derived.Test.YtjfeebbhkolmoaaDoorR10Inside
import Derived.Deep.CutBlock
namespace Go.Proofs.YtjfeebbhkolmoaaDoor.R
open Go.RowKit

set_option maxRecDepth 100000 in
set_option maxHeartbeats 6000000 in
theorem inside_ma (w : World) (S : Nat → Prop) (g : Nat) (s : St) (hs : StAt w S g s) (hl : s.text.length ≤ 140737488355000) (c : Nat) (h : 194 ≤ c) (h' : c < 224) :
    Calls Tryd.prog 87 #[.pointer (some ⟨g, 3, none⟩), .int .u8 (c)] w (StPost w S g { s with text := s.text ++ [c], mode := 6, low := 128, most := 191, left := 1 } true) := by
  obtain ⟨v, hb, ho, rfl⟩ := hs
  have hn := StAt.ne hb ho
  have HB := Lib.hid hb
  have HO := Lib.hid ho
  have HN := Lib.hid hn
  have HL := Lib.hid hl
  have c6 := hb.cell 9
  unfold stCells at c6
  obtain ⟨i0, hi, hz0, hz1, hz2⟩ := info_parts info_u8
  have HP1 := Lib.hid (ho.alloc (.cells #[.int .u8 (c)] 5))
  clear hb ho hn hl
  have h1 : 194 ≤ (c : Int) := by omega
  have h2 : (c : Int) < 224 := by omega
  have q1 : ((c : Int) == 34) = false := eqF (by omega)
  have q2 : ((c : Int) == 92) = false := eqF (by omega)
  have q3 : ((c : Int) == 224) = false := eqF (by omega)
  have q4 : ((c : Int) == 237) = false := eqF (by omega)
  have q5 : ((c : Int) == 240) = false := eqF (by omega)
  have q6 : ((c : Int) == 244) = false := eqF (by omega)
  clear h h'
  go_enter Tryd.func87, Tryd.ntmps87
  go_wp2_with (at_builtin; refine wpList_append_any _ rfl _ _ 35 rfl 0 5 i0 (.int .u8 0) 1 1 Tryd.underlying35 hi hz0 hz1 hz2 rfl (by decide) _ _ _ rfl HP1.out (w.heap.size + 1) (some ⟨w.heap.size, 0, none⟩) 1 1 [.int .u8 (c)] rfl ?c1 ?c2 ?c3 ?c4 ?c5 ?_)
  case c1 => exact ⟨rfl, fun _ => ⟨_, rfl, by simp, one_cell_new _ _ _⟩⟩
  case c2 => first | (intro u hu; simp at hu; subst hu; rfl) | rfl
  case c3 => unfold maxLen; have := HL.out; omega
  case c4 => have := HL.out; omega
  (try case c5 => exact Nat.zero_le _)
  intro v2 w2 hown2 hg2 hor
  obtain ⟨A2, k2, rfl, -, -, -, -⟩ := own_rd hown2
  have hb2 := (HB.out.alloc (.cells #[.int .u8 (c)] 5)).grown hg2 (fun k => HN.out k.symm)
  have hl2 := ((Keeps.refl (SO g v) w).alloc (.cells #[.int .u8 (c)] 5)).grown hg2 (fun k h => .inl (.inr h))
  have HFR := Lib.hid (fr_of (g := g) (a := w) hor (by simp))
  have HN2 := Lib.hid (StAt.ne hb2 hown2)
  have HB2 := Lib.hid hb2
  have HO2 : Hid (w2.ownsRow 0 5 1 _ (s.text ++ [c]).length (vals .u8 (s.text ++ [c]))) := Lib.hid (by rw [List.length_append, vals_snoc]; exact hown2)
  have HL2 := Lib.hid hl2
  have c0 := hb2.cell 3
  have c1 := hb2.cell 4
  have c4 := hb2.cell 7
  have c5 := hb2.cell 8
  have d6 := hb2.cell 9
  have f0 := hb2.frozen 3
  have f1 := hb2.frozen 4
  have f4 := hb2.frozen 7
  have f5 := hb2.frozen 8
  have f6 := hb2.frozen 9
  unfold stCells at c0 c1 c4 c5 d6
  clear hb2 hown2 hg2 hl2 hor c6
  go_wp2_with fail
  go_ret
  exact stNew (stSet1 (stSet5 (stSet4 (stSet0 (stText (stSet6 HB2.out _) (s.text ++ [c])) 6) 128) 191) 1) (own_far' (own_far' (own_far' (own_far' (own_far' HO2.out HN2.out 9 _) HN2.out 3 _) HN2.out 7 _) HN2.out 8 _) HN2.out 4 _) (((((HL2.out.setCell (p := ⟨g, 9, none⟩) (.inl (.inl rfl)) _).setCell (p := ⟨g, 3, none⟩) (.inl (.inl rfl)) _).setCell (p := ⟨g, 7, none⟩) (.inl (.inl rfl)) _).setCell (p := ⟨g, 8, none⟩) (.inl (.inl rfl)) _).setCell (p := ⟨g, 4, none⟩) (.inl (.inl rfl)) _) HFR.out

set_option maxRecDepth 100000 in
set_option maxHeartbeats 6000000 in
theorem inside_mb (w : World) (S : Nat → Prop) (g : Nat) (s : St) (hs : StAt w S g s) (hl : s.text.length ≤ 140737488355000) :
    Calls Tryd.prog 87 #[.pointer (some ⟨g, 3, none⟩), .int .u8 (224)] w (StPost w S g { s with text := s.text ++ [224], mode := 6, low := 160, most := 191, left := 2 } true) := by
  obtain ⟨v, hb, ho, rfl⟩ := hs
  have hn := StAt.ne hb ho
  have HB := Lib.hid hb
  have HO := Lib.hid ho
  have HN := Lib.hid hn
  have HL := Lib.hid hl
  have c6 := hb.cell 9
  unfold stCells at c6
  obtain ⟨i0, hi, hz0, hz1, hz2⟩ := info_parts info_u8
  have HP1 := Lib.hid (ho.alloc (.cells #[.int .u8 (224)] 5))
  clear hb ho hn hl
  go_enter Tryd.func87, Tryd.ntmps87
  go_wp2_with (at_builtin; refine wpList_append_any _ rfl _ _ 35 rfl 0 5 i0 (.int .u8 0) 1 1 Tryd.underlying35 hi hz0 hz1 hz2 rfl (by decide) _ _ _ rfl HP1.out (w.heap.size + 1) (some ⟨w.heap.size, 0, none⟩) 1 1 [.int .u8 (224)] rfl ?c1 ?c2 ?c3 ?c4 ?c5 ?_)
  case c1 => exact ⟨rfl, fun _ => ⟨_, rfl, by simp, one_cell_new _ _ _⟩⟩
  case c2 => first | (intro u hu; simp at hu; subst hu; rfl) | rfl
  case c3 => unfold maxLen; have := HL.out; omega
  case c4 => have := HL.out; omega
  (try case c5 => exact Nat.zero_le _)
  intro v2 w2 hown2 hg2 hor
  obtain ⟨A2, k2, rfl, -, -, -, -⟩ := own_rd hown2
  have hb2 := (HB.out.alloc (.cells #[.int .u8 (224)] 5)).grown hg2 (fun k => HN.out k.symm)
  have hl2 := ((Keeps.refl (SO g v) w).alloc (.cells #[.int .u8 (224)] 5)).grown hg2 (fun k h => .inl (.inr h))
  have HFR := Lib.hid (fr_of (g := g) (a := w) hor (by simp))
  have HN2 := Lib.hid (StAt.ne hb2 hown2)
  have HB2 := Lib.hid hb2
  have HO2 : Hid (w2.ownsRow 0 5 1 _ (s.text ++ [224]).length (vals .u8 (s.text ++ [224]))) := Lib.hid (by rw [List.length_append, vals_snoc]; exact hown2)
  have HL2 := Lib.hid hl2
  have c0 := hb2.cell 3
  have c1 := hb2.cell 4
  have c4 := hb2.cell 7
  have c5 := hb2.cell 8
  have d6 := hb2.cell 9
  have f0 := hb2.frozen 3
  have f1 := hb2.frozen 4
  have f4 := hb2.frozen 7
  have f5 := hb2.frozen 8
  have f6 := hb2.frozen 9
  unfold stCells at c0 c1 c4 c5 d6
  clear hb2 hown2 hg2 hl2 hor c6
  go_wp2_with fail
  go_ret
  exact stNew (stSet4 (stSet1 (stSet1 (stSet5 (stSet4 (stSet0 (stText (stSet6 HB2.out _) (s.text ++ [224])) 6) 128) 191) 1) 2) 160) (own_far' (own_far' (own_far' (own_far' (own_far' (own_far' (own_far' HO2.out HN2.out 9 _) HN2.out 3 _) HN2.out 7 _) HN2.out 8 _) HN2.out 4 _) HN2.out 4 _) HN2.out 7 _) (((((((HL2.out.setCell (p := ⟨g, 9, none⟩) (.inl (.inl rfl)) _).setCell (p := ⟨g, 3, none⟩) (.inl (.inl rfl)) _).setCell (p := ⟨g, 7, none⟩) (.inl (.inl rfl)) _).setCell (p := ⟨g, 8, none⟩) (.inl (.inl rfl)) _).setCell (p := ⟨g, 4, none⟩) (.inl (.inl rfl)) _).setCell (p := ⟨g, 4, none⟩) (.inl (.inl rfl)) _).setCell (p := ⟨g, 7, none⟩) (.inl (.inl rfl)) _) HFR.out

set_option maxRecDepth 100000 in
set_option maxHeartbeats 6000000 in
theorem inside_mc (w : World) (S : Nat → Prop) (g : Nat) (s : St) (hs : StAt w S g s) (hl : s.text.length ≤ 140737488355000) (c : Nat) (h : 225 ≤ c) (h' : c < 237) :
    Calls Tryd.prog 87 #[.pointer (some ⟨g, 3, none⟩), .int .u8 (c)] w (StPost w S g { s with text := s.text ++ [c], mode := 6, low := 128, most := 191, left := 2 } true) := by
  obtain ⟨v, hb, ho, rfl⟩ := hs
  have hn := StAt.ne hb ho
  have HB := Lib.hid hb
  have HO := Lib.hid ho
  have HN := Lib.hid hn
  have HL := Lib.hid hl
  have c6 := hb.cell 9
  unfold stCells at c6
  obtain ⟨i0, hi, hz0, hz1, hz2⟩ := info_parts info_u8
  have HP1 := Lib.hid (ho.alloc (.cells #[.int .u8 (c)] 5))
  clear hb ho hn hl
  have h1 : 225 ≤ (c : Int) := by omega
  have h2 : (c : Int) < 237 := by omega
  have q1 : ((c : Int) == 34) = false := eqF (by omega)
  have q2 : ((c : Int) == 92) = false := eqF (by omega)
  have q3 : ((c : Int) == 224) = false := eqF (by omega)
  have q4 : ((c : Int) == 237) = false := eqF (by omega)
  have q5 : ((c : Int) == 240) = false := eqF (by omega)
  have q6 : ((c : Int) == 244) = false := eqF (by omega)
  clear h h'
  go_enter Tryd.func87, Tryd.ntmps87
  go_wp2_with (at_builtin; refine wpList_append_any _ rfl _ _ 35 rfl 0 5 i0 (.int .u8 0) 1 1 Tryd.underlying35 hi hz0 hz1 hz2 rfl (by decide) _ _ _ rfl HP1.out (w.heap.size + 1) (some ⟨w.heap.size, 0, none⟩) 1 1 [.int .u8 (c)] rfl ?c1 ?c2 ?c3 ?c4 ?c5 ?_)
  case c1 => exact ⟨rfl, fun _ => ⟨_, rfl, by simp, one_cell_new _ _ _⟩⟩
  case c2 => first | (intro u hu; simp at hu; subst hu; rfl) | rfl
  case c3 => unfold maxLen; have := HL.out; omega
  case c4 => have := HL.out; omega
  (try case c5 => exact Nat.zero_le _)
  intro v2 w2 hown2 hg2 hor
  obtain ⟨A2, k2, rfl, -, -, -, -⟩ := own_rd hown2
  have hb2 := (HB.out.alloc (.cells #[.int .u8 (c)] 5)).grown hg2 (fun k => HN.out k.symm)
  have hl2 := ((Keeps.refl (SO g v) w).alloc (.cells #[.int .u8 (c)] 5)).grown hg2 (fun k h => .inl (.inr h))
  have HFR := Lib.hid (fr_of (g := g) (a := w) hor (by simp))
  have HN2 := Lib.hid (StAt.ne hb2 hown2)
  have HB2 := Lib.hid hb2
  have HO2 : Hid (w2.ownsRow 0 5 1 _ (s.text ++ [c]).length (vals .u8 (s.text ++ [c]))) := Lib.hid (by rw [List.length_append, vals_snoc]; exact hown2)
  have HL2 := Lib.hid hl2
  have c0 := hb2.cell 3
  have c1 := hb2.cell 4
  have c4 := hb2.cell 7
  have c5 := hb2.cell 8
  have d6 := hb2.cell 9
  have f0 := hb2.frozen 3
  have f1 := hb2.frozen 4
  have f4 := hb2.frozen 7
  have f5 := hb2.frozen 8
  have f6 := hb2.frozen 9
  unfold stCells at c0 c1 c4 c5 d6
  clear hb2 hown2 hg2 hl2 hor c6
  go_wp2_with fail
  go_ret
  exact stNew (stSet1 (stSet1 (stSet5 (stSet4 (stSet0 (stText (stSet6 HB2.out _) (s.text ++ [c])) 6) 128) 191) 1) 2) (own_far' (own_far' (own_far' (own_far' (own_far' (own_far' HO2.out HN2.out 9 _) HN2.out 3 _) HN2.out 7 _) HN2.out 8 _) HN2.out 4 _) HN2.out 4 _) ((((((HL2.out.setCell (p := ⟨g, 9, none⟩) (.inl (.inl rfl)) _).setCell (p := ⟨g, 3, none⟩) (.inl (.inl rfl)) _).setCell (p := ⟨g, 7, none⟩) (.inl (.inl rfl)) _).setCell (p := ⟨g, 8, none⟩) (.inl (.inl rfl)) _).setCell (p := ⟨g, 4, none⟩) (.inl (.inl rfl)) _).setCell (p := ⟨g, 4, none⟩) (.inl (.inl rfl)) _) HFR.out

end Go.Proofs.YtjfeebbhkolmoaaDoor.R
