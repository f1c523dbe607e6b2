/- The contract of (*crucibleref10.State).inside, its arms (B). -/
import Derived.Test.YtjfeebbhkolmoaaDoorR10Inside
import Derived.Deep.CutBlock
namespace Go.Proofs.YtjfeebbhkolmoaaDoor.R
open Go.RowKit

set_option maxRecDepth 100000 in
set_option maxHeartbeats 6000000 in
theorem inside_md (w : World) (S : Nat → Prop) (g : Nat) (s : St) (hs : StAt w S g s) (hl : s.text.length ≤ 140737488355000) :
    Calls Tryd.prog 87 #[.pointer (some ⟨g, 3, none⟩), .int .u8 (237)] w (StPost w S g { s with text := s.text ++ [237], mode := 6, low := 128, most := 159, left := 2 } true) := by
  obtain ⟨v, hb, ho, rfl⟩ := hs
  have hn := StAt.ne hb ho
  have HB := Lib.hid hb
  have HO := Lib.hid ho
  have HN := Lib.hid hn
  have HL := Lib.hid hl
  have c6 := hb.cell 9
  unfold stCells at c6
  obtain ⟨i0, hi, hz0, hz1, hz2⟩ := info_parts info_u8
  have HP1 := Lib.hid (ho.alloc (.cells #[.int .u8 (237)] 5))
  clear hb ho hn hl
  go_enter Tryd.func87, Tryd.ntmps87
  go_wp2_with (at_builtin; refine wpList_append_any _ rfl _ _ 35 rfl 0 5 i0 (.int .u8 0) 1 1 Tryd.underlying35 hi hz0 hz1 hz2 rfl (by decide) _ _ _ rfl HP1.out (w.heap.size + 1) (some ⟨w.heap.size, 0, none⟩) 1 1 [.int .u8 (237)] rfl ?c1 ?c2 ?c3 ?c4 ?c5 ?_)
  case c1 => exact ⟨rfl, fun _ => ⟨_, rfl, by simp, one_cell_new _ _ _⟩⟩
  case c2 => first | (intro u hu; simp at hu; subst hu; rfl) | rfl
  case c3 => unfold maxLen; have := HL.out; omega
  case c4 => have := HL.out; omega
  (try case c5 => exact Nat.zero_le _)
  intro v2 w2 hown2 hg2 hor
  obtain ⟨A2, k2, rfl, -, -, -, -⟩ := own_rd hown2
  have hb2 := (HB.out.alloc (.cells #[.int .u8 (237)] 5)).grown hg2 (fun k => HN.out k.symm)
  have hl2 := ((Keeps.refl (SO g v) w).alloc (.cells #[.int .u8 (237)] 5)).grown hg2 (fun k h => .inl (.inr h))
  have HFR := Lib.hid (fr_of (g := g) (a := w) hor (by simp))
  have HN2 := Lib.hid (StAt.ne hb2 hown2)
  have HB2 := Lib.hid hb2
  have HO2 : Hid (w2.ownsRow 0 5 1 _ (s.text ++ [237]).length (vals .u8 (s.text ++ [237]))) := Lib.hid (by rw [List.length_append, vals_snoc]; exact hown2)
  have HL2 := Lib.hid hl2
  have c0 := hb2.cell 3
  have c1 := hb2.cell 4
  have c4 := hb2.cell 7
  have c5 := hb2.cell 8
  have d6 := hb2.cell 9
  have f0 := hb2.frozen 3
  have f1 := hb2.frozen 4
  have f4 := hb2.frozen 7
  have f5 := hb2.frozen 8
  have f6 := hb2.frozen 9
  unfold stCells at c0 c1 c4 c5 d6
  clear hb2 hown2 hg2 hl2 hor c6
  go_wp2_with fail
  go_ret
  exact stNew (stSet5 (stSet1 (stSet1 (stSet5 (stSet4 (stSet0 (stText (stSet6 HB2.out _) (s.text ++ [237])) 6) 128) 191) 1) 2) 159) (own_far' (own_far' (own_far' (own_far' (own_far' (own_far' (own_far' HO2.out HN2.out 9 _) HN2.out 3 _) HN2.out 7 _) HN2.out 8 _) HN2.out 4 _) HN2.out 4 _) HN2.out 8 _) (((((((HL2.out.setCell (p := ⟨g, 9, none⟩) (.inl (.inl rfl)) _).setCell (p := ⟨g, 3, none⟩) (.inl (.inl rfl)) _).setCell (p := ⟨g, 7, none⟩) (.inl (.inl rfl)) _).setCell (p := ⟨g, 8, none⟩) (.inl (.inl rfl)) _).setCell (p := ⟨g, 4, none⟩) (.inl (.inl rfl)) _).setCell (p := ⟨g, 4, none⟩) (.inl (.inl rfl)) _).setCell (p := ⟨g, 8, none⟩) (.inl (.inl rfl)) _) HFR.out

set_option maxRecDepth 100000 in
set_option maxHeartbeats 6000000 in
theorem inside_me (w : World) (S : Nat → Prop) (g : Nat) (s : St) (hs : StAt w S g s) (hl : s.text.length ≤ 140737488355000) (c : Nat) (h : 238 ≤ c) (h' : c < 240) :
    Calls Tryd.prog 87 #[.pointer (some ⟨g, 3, none⟩), .int .u8 (c)] w (StPost w S g { s with text := s.text ++ [c], mode := 6, low := 128, most := 191, left := 2 } true) := by
  obtain ⟨v, hb, ho, rfl⟩ := hs
  have hn := StAt.ne hb ho
  have HB := Lib.hid hb
  have HO := Lib.hid ho
  have HN := Lib.hid hn
  have HL := Lib.hid hl
  have c6 := hb.cell 9
  unfold stCells at c6
  obtain ⟨i0, hi, hz0, hz1, hz2⟩ := info_parts info_u8
  have HP1 := Lib.hid (ho.alloc (.cells #[.int .u8 (c)] 5))
  clear hb ho hn hl
  have h1 : 238 ≤ (c : Int) := by omega
  have h2 : (c : Int) < 240 := by omega
  have q1 : ((c : Int) == 34) = false := eqF (by omega)
  have q2 : ((c : Int) == 92) = false := eqF (by omega)
  have q3 : ((c : Int) == 224) = false := eqF (by omega)
  have q4 : ((c : Int) == 237) = false := eqF (by omega)
  have q5 : ((c : Int) == 240) = false := eqF (by omega)
  have q6 : ((c : Int) == 244) = false := eqF (by omega)
  clear h h'
  go_enter Tryd.func87, Tryd.ntmps87
  go_wp2_with (at_builtin; refine wpList_append_any _ rfl _ _ 35 rfl 0 5 i0 (.int .u8 0) 1 1 Tryd.underlying35 hi hz0 hz1 hz2 rfl (by decide) _ _ _ rfl HP1.out (w.heap.size + 1) (some ⟨w.heap.size, 0, none⟩) 1 1 [.int .u8 (c)] rfl ?c1 ?c2 ?c3 ?c4 ?c5 ?_)
  case c1 => exact ⟨rfl, fun _ => ⟨_, rfl, by simp, one_cell_new _ _ _⟩⟩
  case c2 => first | (intro u hu; simp at hu; subst hu; rfl) | rfl
  case c3 => unfold maxLen; have := HL.out; omega
  case c4 => have := HL.out; omega
  (try case c5 => exact Nat.zero_le _)
  intro v2 w2 hown2 hg2 hor
  obtain ⟨A2, k2, rfl, -, -, -, -⟩ := own_rd hown2
  have hb2 := (HB.out.alloc (.cells #[.int .u8 (c)] 5)).grown hg2 (fun k => HN.out k.symm)
  have hl2 := ((Keeps.refl (SO g v) w).alloc (.cells #[.int .u8 (c)] 5)).grown hg2 (fun k h => .inl (.inr h))
  have HFR := Lib.hid (fr_of (g := g) (a := w) hor (by simp))
  have HN2 := Lib.hid (StAt.ne hb2 hown2)
  have HB2 := Lib.hid hb2
  have HO2 : Hid (w2.ownsRow 0 5 1 _ (s.text ++ [c]).length (vals .u8 (s.text ++ [c]))) := Lib.hid (by rw [List.length_append, vals_snoc]; exact hown2)
  have HL2 := Lib.hid hl2
  have c0 := hb2.cell 3
  have c1 := hb2.cell 4
  have c4 := hb2.cell 7
  have c5 := hb2.cell 8
  have d6 := hb2.cell 9
  have f0 := hb2.frozen 3
  have f1 := hb2.frozen 4
  have f4 := hb2.frozen 7
  have f5 := hb2.frozen 8
  have f6 := hb2.frozen 9
  unfold stCells at c0 c1 c4 c5 d6
  clear hb2 hown2 hg2 hl2 hor c6
  go_wp2_with fail
  go_ret
  exact stNew (stSet1 (stSet1 (stSet5 (stSet4 (stSet0 (stText (stSet6 HB2.out _) (s.text ++ [c])) 6) 128) 191) 1) 2) (own_far' (own_far' (own_far' (own_far' (own_far' (own_far' HO2.out HN2.out 9 _) HN2.out 3 _) HN2.out 7 _) HN2.out 8 _) HN2.out 4 _) HN2.out 4 _) ((((((HL2.out.setCell (p := ⟨g, 9, none⟩) (.inl (.inl rfl)) _).setCell (p := ⟨g, 3, none⟩) (.inl (.inl rfl)) _).setCell (p := ⟨g, 7, none⟩) (.inl (.inl rfl)) _).setCell (p := ⟨g, 8, none⟩) (.inl (.inl rfl)) _).setCell (p := ⟨g, 4, none⟩) (.inl (.inl rfl)) _).setCell (p := ⟨g, 4, none⟩) (.inl (.inl rfl)) _) HFR.out

set_option maxRecDepth 100000 in
set_option maxHeartbeats 6000000 in
theorem inside_mf (w : World) (S : Nat → Prop) (g : Nat) (s : St) (hs : StAt w S g s) (hl : s.text.length ≤ 140737488355000) :
    Calls Tryd.prog 87 #[.pointer (some ⟨g, 3, none⟩), .int .u8 (240)] w (StPost w S g { s with text := s.text ++ [240], mode := 6, low := 144, most := 191, left := 3 } true) := by
  obtain ⟨v, hb, ho, rfl⟩ := hs
  have hn := StAt.ne hb ho
  have HB := Lib.hid hb
  have HO := Lib.hid ho
  have HN := Lib.hid hn
  have HL := Lib.hid hl
  have c6 := hb.cell 9
  unfold stCells at c6
  obtain ⟨i0, hi, hz0, hz1, hz2⟩ := info_parts info_u8
  have HP1 := Lib.hid (ho.alloc (.cells #[.int .u8 (240)] 5))
  clear hb ho hn hl
  go_enter Tryd.func87, Tryd.ntmps87
  go_wp2_with (at_builtin; refine wpList_append_any _ rfl _ _ 35 rfl 0 5 i0 (.int .u8 0) 1 1 Tryd.underlying35 hi hz0 hz1 hz2 rfl (by decide) _ _ _ rfl HP1.out (w.heap.size + 1) (some ⟨w.heap.size, 0, none⟩) 1 1 [.int .u8 (240)] rfl ?c1 ?c2 ?c3 ?c4 ?c5 ?_)
  case c1 => exact ⟨rfl, fun _ => ⟨_, rfl, by simp, one_cell_new _ _ _⟩⟩
  case c2 => first | (intro u hu; simp at hu; subst hu; rfl) | rfl
  case c3 => unfold maxLen; have := HL.out; omega
  case c4 => have := HL.out; omega
  (try case c5 => exact Nat.zero_le _)
  intro v2 w2 hown2 hg2 hor
  obtain ⟨A2, k2, rfl, -, -, -, -⟩ := own_rd hown2
  have hb2 := (HB.out.alloc (.cells #[.int .u8 (240)] 5)).grown hg2 (fun k => HN.out k.symm)
  have hl2 := ((Keeps.refl (SO g v) w).alloc (.cells #[.int .u8 (240)] 5)).grown hg2 (fun k h => .inl (.inr h))
  have HFR := Lib.hid (fr_of (g := g) (a := w) hor (by simp))
  have HN2 := Lib.hid (StAt.ne hb2 hown2)
  have HB2 := Lib.hid hb2
  have HO2 : Hid (w2.ownsRow 0 5 1 _ (s.text ++ [240]).length (vals .u8 (s.text ++ [240]))) := Lib.hid (by rw [List.length_append, vals_snoc]; exact hown2)
  have HL2 := Lib.hid hl2
  have c0 := hb2.cell 3
  have c1 := hb2.cell 4
  have c4 := hb2.cell 7
  have c5 := hb2.cell 8
  have d6 := hb2.cell 9
  have f0 := hb2.frozen 3
  have f1 := hb2.frozen 4
  have f4 := hb2.frozen 7
  have f5 := hb2.frozen 8
  have f6 := hb2.frozen 9
  unfold stCells at c0 c1 c4 c5 d6
  clear hb2 hown2 hg2 hl2 hor c6
  go_upto_region 19 with fail
  have hb3 : Blk (((((((w2.setCell ⟨g, 9, none⟩ (.slice A2 (s.text.length + 1) k2)).setCell ⟨g, 3, none⟩ (.int .i64 6)).setCell ⟨g, 7, none⟩ (.int .u8 128)).setCell ⟨g, 8, none⟩ (.int .u8 191)).setCell ⟨g, 4, none⟩ (.int .i64 1)).setCell ⟨g, 4, none⟩ (.int .i64 2))) g 41 _ := stSet1 (stSet1 (stSet5 (stSet4 (stSet0 (stSet6 HB2.out (.slice A2 (s.text.length + 1) k2)) 6) 128) 191) 1) 2
  have ho3 : (((((((w2.setCell ⟨g, 9, none⟩ (.slice A2 (s.text.length + 1) k2)).setCell ⟨g, 3, none⟩ (.int .i64 6)).setCell ⟨g, 7, none⟩ (.int .u8 128)).setCell ⟨g, 8, none⟩ (.int .u8 191)).setCell ⟨g, 4, none⟩ (.int .i64 1)).setCell ⟨g, 4, none⟩ (.int .i64 2))).ownsRow 0 5 1 (.slice A2 (s.text.length + 1) k2) (s.text ++ [240]).length (vals .u8 (s.text ++ [240])) := own_far' (own_far' (own_far' (own_far' (own_far' (own_far' HO2.out HN2.out 9 _) HN2.out 3 _) HN2.out 7 _) HN2.out 8 _) HN2.out 4 _) HN2.out 4 _
  have hl3 : Keeps (SO g v) w (((((((w2.setCell ⟨g, 9, none⟩ (.slice A2 (s.text.length + 1) k2)).setCell ⟨g, 3, none⟩ (.int .i64 6)).setCell ⟨g, 7, none⟩ (.int .u8 128)).setCell ⟨g, 8, none⟩ (.int .u8 191)).setCell ⟨g, 4, none⟩ (.int .i64 1)).setCell ⟨g, 4, none⟩ (.int .i64 2))) := (((((HL2.out.setCell (p := ⟨g, 9, none⟩) (.inl (.inl rfl)) _).setCell (p := ⟨g, 3, none⟩) (.inl (.inl rfl)) _).setCell (p := ⟨g, 7, none⟩) (.inl (.inl rfl)) _).setCell (p := ⟨g, 8, none⟩) (.inl (.inl rfl)) _).setCell (p := ⟨g, 4, none⟩) (.inl (.inl rfl)) _).setCell (p := ⟨g, 4, none⟩) (.inl (.inl rfl)) _
  have hz3 : w2.heap.size ≤ ((((((w2.setCell ⟨g, 9, none⟩ (.slice A2 (s.text.length + 1) k2)).setCell ⟨g, 3, none⟩ (.int .i64 6)).setCell ⟨g, 7, none⟩ (.int .u8 128)).setCell ⟨g, 8, none⟩ (.int .u8 191)).setCell ⟨g, 4, none⟩ (.int .i64 1)).setCell ⟨g, 4, none⟩ (.int .i64 2)).heap.size := by simp
  have hz2' : w.heap.size ≤ w2.heap.size := HL2.out.size
  clear c0 c1 c4 c5 d6 f0 f1 f4 f5 f6
  generalize ((((((w2.setCell _ _).setCell _ _).setCell _ _).setCell _ _).setCell _ _).setCell _ _) = w3 at *
  have c0 := hb3.cell 3
  have c1 := hb3.cell 4
  have c4 := hb3.cell 7
  have c5 := hb3.cell 8
  have f0 := hb3.frozen 3
  have f1 := hb3.frozen 4
  have f4 := hb3.frozen 7
  have f5 := hb3.frozen 8
  unfold stCells at c0 c1 c4 c5
  have HB3 := Lib.hid hb3
  have HO3 := Lib.hid ho3
  have HL3 := Lib.hid hl3
  have HZ3 := Lib.hid (Nat.le_trans hz2' hz3)
  clear hb3 ho3 hl3 hz3 hz2'
  go_wp2_with fail
  go_ret
  exact stNew (stSet4 (stSet1 (stText HB3.out (s.text ++ [240])) 3) 144) (own_far' (own_far' (HO3.out) HN2.out 4 _) HN2.out 7 _) (((HL3.out).setCell (p := ⟨g, 4, none⟩) (.inl (.inl rfl)) _).setCell (p := ⟨g, 7, none⟩) (.inl (.inl rfl)) _) HFR.out

end Go.Proofs.YtjfeebbhkolmoaaDoor.R
