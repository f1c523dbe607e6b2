/- Contract of (*crucibleref10.State).Step between pieces and amid an encoding. -/
import Derived.Test.YtjfeebbhkolmoaaDoorR10InsideD
namespace Go.Proofs.YtjfeebbhkolmoaaDoor.R
open Go.RowKit
set_option linter.unusedVariables false

def bytesStep (s : St) (c : Nat) : St × Bool :=
  if c < s.low ∨ s.most < c then (s, false)
  else ({ s with text := s.text ++ [c], low := 128, most := 191, left := s.left - 1, mode := if s.left - 1 = 0 then 1 else s.mode }, true)

set_option maxRecDepth 100000 in
theorem step_inside (w : World) (S : Nat → Prop) (g : Nat) (s : St) (c : Nat) (hc : c < 256) (hm : s.mode = 1) (hs : StAt w S g s) (hl : s.text.length ≤ 140737488355000) :
    Calls Tryd.prog 74 #[.pointer (some ⟨g, 3, none⟩), .int .u8 c] w (StPost w S g (inside s c).1 (inside s c).2) := by
  have HI := Lib.hid (inside_any w S g s c hc hs hl)
  obtain ⟨v, hb, -, -⟩ := hs
  have c0 := hb.cell 3
  unfold stCells at c0
  rw [hm] at c0
  clear hb hm hl hc
  generalize (inside s c).1 = s2 at *
  generalize (inside s c).2 = ok at *
  go_enter Tryd.func74, Tryd.ntmps74
  go_wp2_with fail
  refine HI.out.mono ?_
  rintro e w2 ⟨rfl, h1⟩
  have H1 := Lib.hid h1
  clear h1
  go_wp2_with fail
  go_ret
  exact ⟨rfl, H1.out⟩

set_option maxRecDepth 100000 in
theorem step_bytes_no (w : World) (S : Nat → Prop) (g : Nat) (s : St) (c : Nat) (hm : s.mode = 6) (hs : StAt w S g s) (h : c < s.low ∨ s.most < c) :
    Calls Tryd.prog 74 #[.pointer (some ⟨g, 3, none⟩), .int .u8 c] w (StPost w S g s false) := by
  obtain ⟨v, hb, ho, rfl⟩ := hs
  have c0 := hb.cell 3
  have c4 := hb.cell 7
  have c5 := hb.cell 8
  unfold stCells at c0 c4 c5
  rw [hm] at c0
  have HB := Lib.hid hb
  have HO := Lib.hid ho
  clear hb ho hm
  by_cases h1 : c < s.low
  · have h2 : (c : Int) < (s.low : Nat) := by omega
    clear h h1
    go_enter Tryd.func74, Tryd.ntmps74
    go_wp2_with fail
    go_ret
    exact stSame (HB.out) (HO.out) (Keeps.refl _ _)
  · have h2 : ((s.low : Nat) : Int) ≤ (c : Int) := by omega
    have h3 : ((s.most : Nat) : Int) < (c : Int) := by omega
    clear h h1
    go_enter Tryd.func74, Tryd.ntmps74
    go_wp2_with fail
    go_ret
    exact stSame (HB.out) (HO.out) (Keeps.refl _ _)

set_option maxRecDepth 100000 in
set_option maxHeartbeats 4000000 in
theorem step_bytes_more (w : World) (S : Nat → Prop) (g : Nat) (s : St) (c : Nat) (hm : s.mode = 6) (hs : StAt w S g s) (h : s.low ≤ c) (h' : c ≤ s.most) (hL : s.left - 1 ≠ 0) (hlo : 0 ≤ s.left) (hhi : s.left ≤ 100) (hl : s.text.length ≤ 140737488355000) :
    Calls Tryd.prog 74 #[.pointer (some ⟨g, 3, none⟩), .int .u8 c] w (StPost w S g { s with text := s.text ++ [c], low := 128, most := 191, left := s.left - 1, mode := s.mode } true) := by
  obtain ⟨v, hb, ho, rfl⟩ := hs
  have hn := StAt.ne hb ho
  have e1 : ((s.low : Nat) : Int) ≤ (c : Int) := by omega
  have e2 : (c : Int) ≤ ((s.most : Nat) : Int) := by omega
  have e3 : ((s.left - 1) == 0) = false := by rw [beq_eq_false_iff_ne]; exact hL
  have e4 : IntKind.i64.wrap (s.left - 1) = s.left - 1 := IntWalk.i64_in _ (by omega)
  have c0 := hb.cell 3
  have c4 := hb.cell 7
  have c5 := hb.cell 8
  have c6 := hb.cell 9
  unfold stCells at c0 c4 c5 c6
  rw [hm] at c0
  have HM := Lib.hid hm
  have HB := Lib.hid hb
  have HO := Lib.hid ho
  have HN := Lib.hid hn
  have HL := Lib.hid hl
  have HLL := Lib.hid hL
  obtain ⟨i0, hi, hz0, hz1, hz2⟩ := info_parts info_u8
  have HP1 := Lib.hid (ho.alloc (.cells #[.int .u8 c] 5))
  clear hb ho hn hl hm h h' hL
  go_enter Tryd.func74, Tryd.ntmps74
  go_wp2_with (at_builtin; refine wpList_append_any _ rfl _ _ 35 rfl 0 5 i0 (.int .u8 0) 1 1 Tryd.underlying35 hi hz0 hz1 hz2 rfl (by decide) _ _ _ rfl HP1.out (w.heap.size + 1) (some ⟨w.heap.size, 0, none⟩) 1 1 [.int .u8 c] rfl ?c1 ?c2 ?c3 ?c4 ?c5 ?_)
  case c1 => exact ⟨rfl, fun _ => ⟨_, rfl, by simp, one_cell_new _ _ _⟩⟩
  case c2 => first | (intro u hu; simp at hu; subst hu; rfl) | rfl
  case c3 => unfold maxLen; have := HL.out; omega
  case c4 => have := HL.out; omega
  (try case c5 => exact Nat.zero_le _)
  intro v2 w2 hown2 hg2 hor
  obtain ⟨A2, k2, rfl, -, -, -, -⟩ := own_rd hown2
  have hb2 := (HB.out.alloc (.cells #[.int .u8 c] 5)).grown hg2 (fun k => HN.out k.symm)
  have hl2 := ((Keeps.refl (SO g v) w).alloc (.cells #[.int .u8 c] 5)).grown hg2 (fun k h => .inl (.inr h))
  have HFR := Lib.hid (fr_of (g := g) (a := w) hor (by simp))
  have HN2 := Lib.hid (StAt.ne hb2 hown2)
  have HB2 := Lib.hid hb2
  have HO2 : Hid (w2.ownsRow 0 5 1 _ (s.text ++ [c]).length (vals .u8 (s.text ++ [c]))) := Lib.hid (by rw [List.length_append, vals_snoc]; exact hown2)
  have HL2 := Lib.hid hl2
  have d0 := hb2.cell 3
  have d1 := hb2.cell 4
  have d4 := hb2.cell 7
  have d5 := hb2.cell 8
  have d6 := hb2.cell 9
  have f0 := hb2.frozen 3
  have f1 := hb2.frozen 4
  have f4 := hb2.frozen 7
  have f5 := hb2.frozen 8
  have f6 := hb2.frozen 9
  unfold stCells at d0 d1 d4 d5 d6
  clear hb2 hown2 hg2 hl2 hor c6 c0 c4 c5
  go_wp2_with fail
  go_ret
  exact stNew (stSet1 (stSet5 (stSet4 (stText (stSet6 HB2.out _) (s.text ++ [c])) 128) 191) (s.left - 1)) (own_far' (own_far' (own_far' (own_far' HO2.out HN2.out 9 _) HN2.out 7 _) HN2.out 8 _) HN2.out 4 _) ((((HL2.out.setCell (p := ⟨g, 9, none⟩) (.inl (.inl rfl)) _).setCell (p := ⟨g, 7, none⟩) (.inl (.inl rfl)) _).setCell (p := ⟨g, 8, none⟩) (.inl (.inl rfl)) _).setCell (p := ⟨g, 4, none⟩) (.inl (.inl rfl)) _) HFR.out

set_option maxRecDepth 100000 in
set_option maxHeartbeats 4000000 in
theorem step_bytes_last (w : World) (S : Nat → Prop) (g : Nat) (s : St) (c : Nat) (hm : s.mode = 6) (hs : StAt w S g s) (h : s.low ≤ c) (h' : c ≤ s.most) (hL : s.left - 1 = 0) (hlo : 0 ≤ s.left) (hhi : s.left ≤ 100) (hl : s.text.length ≤ 140737488355000) :
    Calls Tryd.prog 74 #[.pointer (some ⟨g, 3, none⟩), .int .u8 c] w (StPost w S g { s with text := s.text ++ [c], low := 128, most := 191, left := s.left - 1, mode := 1 } true) := by
  obtain ⟨v, hb, ho, rfl⟩ := hs
  have hn := StAt.ne hb ho
  have e1 : ((s.low : Nat) : Int) ≤ (c : Int) := by omega
  have e2 : (c : Int) ≤ ((s.most : Nat) : Int) := by omega
  have e3 : ((s.left - 1) == 0) = true := by rw [beq_iff_eq]; exact hL
  have e4 : IntKind.i64.wrap (s.left - 1) = s.left - 1 := IntWalk.i64_in _ (by omega)
  have c0 := hb.cell 3
  have c4 := hb.cell 7
  have c5 := hb.cell 8
  have c6 := hb.cell 9
  unfold stCells at c0 c4 c5 c6
  rw [hm] at c0
  have HM := Lib.hid hm
  have HB := Lib.hid hb
  have HO := Lib.hid ho
  have HN := Lib.hid hn
  have HL := Lib.hid hl
  have HLL := Lib.hid hL
  obtain ⟨i0, hi, hz0, hz1, hz2⟩ := info_parts info_u8
  have HP1 := Lib.hid (ho.alloc (.cells #[.int .u8 c] 5))
  clear hb ho hn hl hm h h' hL
  go_enter Tryd.func74, Tryd.ntmps74
  go_wp2_with (at_builtin; refine wpList_append_any _ rfl _ _ 35 rfl 0 5 i0 (.int .u8 0) 1 1 Tryd.underlying35 hi hz0 hz1 hz2 rfl (by decide) _ _ _ rfl HP1.out (w.heap.size + 1) (some ⟨w.heap.size, 0, none⟩) 1 1 [.int .u8 c] rfl ?c1 ?c2 ?c3 ?c4 ?c5 ?_)
  case c1 => exact ⟨rfl, fun _ => ⟨_, rfl, by simp, one_cell_new _ _ _⟩⟩
  case c2 => first | (intro u hu; simp at hu; subst hu; rfl) | rfl
  case c3 => unfold maxLen; have := HL.out; omega
  case c4 => have := HL.out; omega
  (try case c5 => exact Nat.zero_le _)
  intro v2 w2 hown2 hg2 hor
  obtain ⟨A2, k2, rfl, -, -, -, -⟩ := own_rd hown2
  have hb2 := (HB.out.alloc (.cells #[.int .u8 c] 5)).grown hg2 (fun k => HN.out k.symm)
  have hl2 := ((Keeps.refl (SO g v) w).alloc (.cells #[.int .u8 c] 5)).grown hg2 (fun k h => .inl (.inr h))
  have HFR := Lib.hid (fr_of (g := g) (a := w) hor (by simp))
  have HN2 := Lib.hid (StAt.ne hb2 hown2)
  have HB2 := Lib.hid hb2
  have HO2 : Hid (w2.ownsRow 0 5 1 _ (s.text ++ [c]).length (vals .u8 (s.text ++ [c]))) := Lib.hid (by rw [List.length_append, vals_snoc]; exact hown2)
  have HL2 := Lib.hid hl2
  have d0 := hb2.cell 3
  have d1 := hb2.cell 4
  have d4 := hb2.cell 7
  have d5 := hb2.cell 8
  have d6 := hb2.cell 9
  have f0 := hb2.frozen 3
  have f1 := hb2.frozen 4
  have f4 := hb2.frozen 7
  have f5 := hb2.frozen 8
  have f6 := hb2.frozen 9
  unfold stCells at d0 d1 d4 d5 d6
  clear hb2 hown2 hg2 hl2 hor c6 c0 c4 c5
  go_wp2_with fail
  go_ret
  exact stNew (stSet0 (stSet1 (stSet5 (stSet4 (stText (stSet6 HB2.out _) (s.text ++ [c])) 128) 191) (s.left - 1)) 1) (own_far' (own_far' (own_far' (own_far' (own_far' HO2.out HN2.out 9 _) HN2.out 7 _) HN2.out 8 _) HN2.out 4 _) HN2.out 3 _) (((((HL2.out.setCell (p := ⟨g, 9, none⟩) (.inl (.inl rfl)) _).setCell (p := ⟨g, 7, none⟩) (.inl (.inl rfl)) _).setCell (p := ⟨g, 8, none⟩) (.inl (.inl rfl)) _).setCell (p := ⟨g, 4, none⟩) (.inl (.inl rfl)) _).setCell (p := ⟨g, 3, none⟩) (.inl (.inl rfl)) _) HFR.out

theorem step_bytes (w : World) (S : Nat → Prop) (g : Nat) (s : St) (c : Nat) (hm : s.mode = 6) (hs : StAt w S g s) (hlo : 0 ≤ s.left) (hhi : s.left ≤ 100) (hl : s.text.length ≤ 140737488355000) :
    Calls Tryd.prog 74 #[.pointer (some ⟨g, 3, none⟩), .int .u8 c] w (StPost w S g (bytesStep s c).1 (bytesStep s c).2) := by
  unfold bytesStep
  by_cases h : c < s.low ∨ s.most < c
  · rw [if_pos h]; exact step_bytes_no w S g s c hm hs h
  · rw [if_neg h]
    by_cases hL : s.left - 1 = 0
    · rw [if_pos hL]; exact step_bytes_last w S g s c hm hs (by omega) (by omega) hL hlo hhi hl
    · rw [if_neg hL]; exact step_bytes_more w S g s c hm hs (by omega) (by omega) hL hlo hhi hl
end Go.Proofs.YtjfeebbhkolmoaaDoor.R
