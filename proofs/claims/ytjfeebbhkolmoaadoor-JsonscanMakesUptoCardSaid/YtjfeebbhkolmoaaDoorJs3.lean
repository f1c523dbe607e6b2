/- Contract of (*jsonscan.Scanner).value. -/
import Derived.Test.YtjfeebbhkolmoaaDoorJs2
namespace Go.Proofs.YtjfeebbhkolmoaaDoor
open Go.RowKit
set_option linter.unusedVariables false

set_option maxRecDepth 100000 in
set_option maxHeartbeats 3000000 in
theorem value_open91 (w : World) (S : Nat → Prop) (g : Nat) (s : Sc) (hs : ScAt w S g s) (hl : s.open_.length < 128) :
    Calls Tryd.prog 28 #[.pointer (some ⟨g, 0, none⟩), .int .u8 91] w (ScPost w S g (sTo (sOpen s 91) jFirstItem false, 0)) := by
  have HK := Lib.hid (blank_any 91 w)
  rw [show blankB 91 = false from rfl] at HK
  have hmf := mk_f
  have f1 := hs.fz 1
  obtain ⟨v, hb, ho, rfl⟩ := hs
  have hne := ScAt.ne hb ho
  have c1 := hb.cell 1
  unfold scCells at c1
  obtain ⟨A, cp, rfl, l1, l2, l3, l4⟩ := own_rd ho
  obtain ⟨i0, hi, hz0, hz1, hz2⟩ := info_parts info_u8
  have HP1 := Lib.hid (ho.alloc (.cells #[.int .u8 91] 5))
  have HB := Lib.hid hb
  have HN := Lib.hid hne
  have HO := Lib.hid ho
  have HL := Lib.hid hl
  have hl2 : ((s.open_.length : Int) == 128) = false := eqF (by omega)
  clear hb ho hne l4 l3
  go_enter Tryd.func28, Tryd.ntmps28
  go_wp2_with fail
  refine HK.out.mono ?_
  rintro e w2 ⟨rfl, rfl⟩
  go_wp2_with (at_builtin; refine wpList_append_any _ rfl (.tmp 25) (.tmp 27) _ rfl 0 5 i0 (.int .u8 0) 1 1 Tryd.underlying35 hi hz0 hz1 hz2 rfl (by omega) (.slice A s.open_.length cp) s.open_.length (vals .u8 s.open_) rfl HP1.out (w.heap.size + 1) (some ⟨w.heap.size, 0, none⟩) 1 1 [.int .u8 91] rfl ?c1 ?c2 ?c3 ?c4 ?c5 ?_)
  case c1 => exact ⟨rfl, fun _ => ⟨_, rfl, by simp, one_cell_new _ _ _⟩⟩
  case c2 => exact one_oneCell rfl
  case c3 => unfold maxLen; have := HL.out; omega
  case c4 => have := HL.out; omega
  case c5 => exact Nat.zero_le _
  intro v2 w2 hown2 hg2 hor
  obtain ⟨A2, k2, rfl, -, -, -, -⟩ := own_rd hown2
  have hb2 := (HB.out.alloc (.cells #[.int .u8 91] 5)).grown hg2 (fun k => HN.out k.symm)
  have hk2 := ((Keeps.refl (fun i => i = g ∨ (Value.slice A s.open_.length cp).ownBlock = some i) w).alloc (.cells #[.int .u8 91] 5)).grown hg2 (fun k h => .inl (.inr h))
  have hne2 := own_blk_ne hown2 hb2 (by decide)
  have HS2 : Hid (ScAt (w2.setCell ⟨g, 1, none⟩ (.slice A2 (s.open_.length + 1) k2)) (fun i => i = g ∨ (Value.slice A2 (s.open_.length + 1) k2).ownBlock = some i) g (sOpen s 91)) := Lib.hid ⟨_, hb2.set_ 1 _, by
    have h := own_far' hown2 hne2 1 (.slice A2 (s.open_.length + 1) k2)
    show World.ownsRow _ _ _ _ _ (s.open_ ++ [91]).length (vals .u8 (s.open_ ++ [91]))
    rw [List.length_append, vals_snoc]; exact h, rfl⟩
  have hfr : Fresh w (fun i => i = g ∨ (Value.slice A s.open_.length cp).ownBlock = some i) (fun i => i = g ∨ (Value.slice A2 (s.open_.length + 1) k2).ownBlock = some i) := by
    rintro i (rfl | h)
    · exact .inl (.inl rfl)
    · rcases hor with h1 | h1
      · exact .inl (.inr (by rw [← h1]; exact h))
      · rw [h] at h1
        injection h1 with h1
        right
        omega
  have HFR := Lib.hid hfr
  have HK2 := Lib.hid (hk2.setCell (p := ⟨g, 1, none⟩) (.inl (.inl rfl)) (.slice A2 (s.open_.length + 1) k2))
  have HT := Lib.hid (to_any _ _ g _ jFirstItem false HS2.out)
  unfold jFirstItem at HT
  have d1 := hb2.cell 1
  have e1 := hb2.frozen 1
  unfold scCells at d1
  clear hb2 hown2 hg2 hk2 hne2 hfr c1 f1 hor
  go_wp2_with fail
  refine HT.out.mono ?_
  rintro e w3 ⟨rfl, h2⟩
  have H2 := Lib.hid h2
  clear h2
  go_wp2_with fail
  go_ret
  exact ScPost.after HK2.out HFR.out ⟨rfl, H2.out⟩

set_option maxRecDepth 100000 in
theorem value_full91 (w : World) (S : Nat → Prop) (g : Nat) (s : Sc) (hs : ScAt w S g s) (hl : s.open_.length = 128) :
    Calls Tryd.prog 28 #[.pointer (some ⟨g, 0, none⟩), .int .u8 91] w (ScPost w S g (s, 5)) := by
  have HK := Lib.hid (blank_any 91 w)
  rw [show blankB 91 = false from rfl] at HK
  have hmf := mk_f
  have HS := Lib.hid hs
  obtain ⟨v, hb, ho, rfl⟩ := hs
  have c1 := hb.cell 1
  unfold scCells at c1
  obtain ⟨A, cp, rfl, l1, l2, l3, l4⟩ := own_rd ho
  rw [hl] at c1
  clear hb ho l4 l3 l1 hl
  go_enter Tryd.func28, Tryd.ntmps28
  go_wp2_with fail
  refine HK.out.mono ?_
  rintro e w2 ⟨rfl, rfl⟩
  go_wp2_with fail
  go_ret
  exact ScPost.stay HS.out 5

set_option maxRecDepth 100000 in
set_option maxHeartbeats 3000000 in
theorem value_open123 (w : World) (S : Nat → Prop) (g : Nat) (s : Sc) (hs : ScAt w S g s) (hl : s.open_.length < 128) :
    Calls Tryd.prog 28 #[.pointer (some ⟨g, 0, none⟩), .int .u8 123] w (ScPost w S g (sTo (sOpen s 123) jFirstKey false, 0)) := by
  have HK := Lib.hid (blank_any 123 w)
  rw [show blankB 123 = false from rfl] at HK
  have hmf := mk_f
  have f1 := hs.fz 1
  obtain ⟨v, hb, ho, rfl⟩ := hs
  have hne := ScAt.ne hb ho
  have c1 := hb.cell 1
  unfold scCells at c1
  obtain ⟨A, cp, rfl, l1, l2, l3, l4⟩ := own_rd ho
  obtain ⟨i0, hi, hz0, hz1, hz2⟩ := info_parts info_u8
  have HP1 := Lib.hid (ho.alloc (.cells #[.int .u8 123] 5))
  have HB := Lib.hid hb
  have HN := Lib.hid hne
  have HO := Lib.hid ho
  have HL := Lib.hid hl
  have hl2 : ((s.open_.length : Int) == 128) = false := eqF (by omega)
  clear hb ho hne l4 l3
  go_enter Tryd.func28, Tryd.ntmps28
  go_wp2_with fail
  refine HK.out.mono ?_
  rintro e w2 ⟨rfl, rfl⟩
  go_wp2_with (at_builtin; refine wpList_append_any _ rfl (.tmp 25) (.tmp 27) _ rfl 0 5 i0 (.int .u8 0) 1 1 Tryd.underlying35 hi hz0 hz1 hz2 rfl (by omega) (.slice A s.open_.length cp) s.open_.length (vals .u8 s.open_) rfl HP1.out (w.heap.size + 1) (some ⟨w.heap.size, 0, none⟩) 1 1 [.int .u8 123] rfl ?c1 ?c2 ?c3 ?c4 ?c5 ?_)
  case c1 => exact ⟨rfl, fun _ => ⟨_, rfl, by simp, one_cell_new _ _ _⟩⟩
  case c2 => exact one_oneCell rfl
  case c3 => unfold maxLen; have := HL.out; omega
  case c4 => have := HL.out; omega
  case c5 => exact Nat.zero_le _
  intro v2 w2 hown2 hg2 hor
  obtain ⟨A2, k2, rfl, -, -, -, -⟩ := own_rd hown2
  have hb2 := (HB.out.alloc (.cells #[.int .u8 123] 5)).grown hg2 (fun k => HN.out k.symm)
  have hk2 := ((Keeps.refl (fun i => i = g ∨ (Value.slice A s.open_.length cp).ownBlock = some i) w).alloc (.cells #[.int .u8 123] 5)).grown hg2 (fun k h => .inl (.inr h))
  have hne2 := own_blk_ne hown2 hb2 (by decide)
  have HS2 : Hid (ScAt (w2.setCell ⟨g, 1, none⟩ (.slice A2 (s.open_.length + 1) k2)) (fun i => i = g ∨ (Value.slice A2 (s.open_.length + 1) k2).ownBlock = some i) g (sOpen s 123)) := Lib.hid ⟨_, hb2.set_ 1 _, by
    have h := own_far' hown2 hne2 1 (.slice A2 (s.open_.length + 1) k2)
    show World.ownsRow _ _ _ _ _ (s.open_ ++ [123]).length (vals .u8 (s.open_ ++ [123]))
    rw [List.length_append, vals_snoc]; exact h, rfl⟩
  have hfr : Fresh w (fun i => i = g ∨ (Value.slice A s.open_.length cp).ownBlock = some i) (fun i => i = g ∨ (Value.slice A2 (s.open_.length + 1) k2).ownBlock = some i) := by
    rintro i (rfl | h)
    · exact .inl (.inl rfl)
    · rcases hor with h1 | h1
      · exact .inl (.inr (by rw [← h1]; exact h))
      · rw [h] at h1
        injection h1 with h1
        right
        omega
  have HFR := Lib.hid hfr
  have HK2 := Lib.hid (hk2.setCell (p := ⟨g, 1, none⟩) (.inl (.inl rfl)) (.slice A2 (s.open_.length + 1) k2))
  have HT := Lib.hid (to_any _ _ g _ jFirstKey false HS2.out)
  unfold jFirstKey at HT
  have d1 := hb2.cell 1
  have e1 := hb2.frozen 1
  unfold scCells at d1
  clear hb2 hown2 hg2 hk2 hne2 hfr c1 f1 hor
  go_wp2_with fail
  refine HT.out.mono ?_
  rintro e w3 ⟨rfl, h2⟩
  have H2 := Lib.hid h2
  clear h2
  go_wp2_with fail
  go_ret
  exact ScPost.after HK2.out HFR.out ⟨rfl, H2.out⟩

set_option maxRecDepth 100000 in
theorem value_full123 (w : World) (S : Nat → Prop) (g : Nat) (s : Sc) (hs : ScAt w S g s) (hl : s.open_.length = 128) :
    Calls Tryd.prog 28 #[.pointer (some ⟨g, 0, none⟩), .int .u8 123] w (ScPost w S g (s, 5)) := by
  have HK := Lib.hid (blank_any 123 w)
  rw [show blankB 123 = false from rfl] at HK
  have hmf := mk_f
  have HS := Lib.hid hs
  obtain ⟨v, hb, ho, rfl⟩ := hs
  have c1 := hb.cell 1
  unfold scCells at c1
  obtain ⟨A, cp, rfl, l1, l2, l3, l4⟩ := own_rd ho
  rw [hl] at c1
  clear hb ho l4 l3 l1 hl
  go_enter Tryd.func28, Tryd.ntmps28
  go_wp2_with fail
  refine HK.out.mono ?_
  rintro e w2 ⟨rfl, rfl⟩
  go_wp2_with fail
  go_ret
  exact ScPost.stay HS.out 5

set_option maxRecDepth 100000 in
set_option maxHeartbeats 1500000 in
theorem value_blank (w : World) (S : Nat → Prop) (g : Nat) (s : Sc) (c : Nat) (hb : blankB c = true) (hs : ScAt w S g s) :
    Calls Tryd.prog 28 #[.pointer (some ⟨g, 0, none⟩), .int .u8 c] w (ScPost w S g (s, 0)) := by
  have hmf := mk_f
  have HS := Lib.hid hs
  have HM := Lib.hid hs.mem
  have HK := Lib.hid (blank_any c w)
  rw [show blankB c = true from by first | assumption | rfl] at HK
  clear hs hb
  go_enter Tryd.func28, Tryd.ntmps28
  go_wp2_with fail
  refine HK.out.mono ?_
  rintro e w2 ⟨rfl, rfl⟩
  go_wp2_with fail
  go_ret
  exact ScPost.stay HS.out 0

set_option maxRecDepth 100000 in
set_option maxHeartbeats 1500000 in
theorem value_quote (w : World) (S : Nat → Prop) (g : Nat) (s : Sc) (hs : ScAt w S g s) :
    Calls Tryd.prog 28 #[.pointer (some ⟨g, 0, none⟩), .int .u8 34] w (ScPost w S g (sTo (sKey s false) jText false, 0)) := by
  have hmf := mk_f
  have HS := Lib.hid hs
  have HM := Lib.hid hs.mem
  have HK := Lib.hid (blank_any 34 w)
  rw [show blankB 34 = false from by first | assumption | rfl] at HK
  have f6 := hs.fz 6
  have d6 := hs.cell 6 (.bool s.key) (fun _ => rfl)
  have HS2 := Lib.hid (ScAt.store HS.out 6 (.bool false) (sKey s false) (fun _ => rfl) rfl)
  have HT := Lib.hid (to_any _ S g (sKey s false) jText false HS2.out)
  unfold jText at HT
  clear hs 
  go_enter Tryd.func28, Tryd.ntmps28
  go_wp2_with fail
  refine HK.out.mono ?_
  rintro e w2 ⟨rfl, rfl⟩
  go_wp2_with fail
  refine HT.out.mono ?_
  rintro e w2 ⟨rfl, h2⟩
  have H2 := Lib.hid h2
  clear h2
  go_wp2_with fail
  go_ret
  exact ScPost.after ((Keeps.refl _ w).setCell (p := ⟨g, 6, none⟩) (.inl HM.out) _) (Fresh.refl _ _) ⟨rfl, H2.out⟩

set_option maxRecDepth 100000 in
set_option maxHeartbeats 1500000 in
theorem value_minus (w : World) (S : Nat → Prop) (g : Nat) (s : Sc) (hs : ScAt w S g s) :
    Calls Tryd.prog 28 #[.pointer (some ⟨g, 0, none⟩), .int .u8 45] w (ScPost w S g (sTo s jMinus false, 0)) := by
  have hmf := mk_f
  have HS := Lib.hid hs
  have HM := Lib.hid hs.mem
  have HK := Lib.hid (blank_any 45 w)
  rw [show blankB 45 = false from by first | assumption | rfl] at HK
  have HT := Lib.hid (to_any _ S g s jMinus false HS.out)
  unfold jMinus at HT
  clear hs 
  go_enter Tryd.func28, Tryd.ntmps28
  go_wp2_with fail
  refine HK.out.mono ?_
  rintro e w2 ⟨rfl, rfl⟩
  go_wp2_with fail
  refine HT.out.mono ?_
  rintro e w2 ⟨rfl, h2⟩
  have H2 := Lib.hid h2
  clear h2
  go_wp2_with fail
  go_ret
  exact ⟨rfl, H2.out⟩

set_option maxRecDepth 100000 in
set_option maxHeartbeats 1500000 in
theorem value_zero (w : World) (S : Nat → Prop) (g : Nat) (s : Sc) (hs : ScAt w S g s) :
    Calls Tryd.prog 28 #[.pointer (some ⟨g, 0, none⟩), .int .u8 48] w (ScPost w S g (sTo s jZero true, 0)) := by
  have hmf := mk_f
  have HS := Lib.hid hs
  have HM := Lib.hid hs.mem
  have HK := Lib.hid (blank_any 48 w)
  rw [show blankB 48 = false from by first | assumption | rfl] at HK
  have HT := Lib.hid (to_any _ S g s jZero true HS.out)
  unfold jZero at HT
  clear hs 
  go_enter Tryd.func28, Tryd.ntmps28
  go_wp2_with fail
  refine HK.out.mono ?_
  rintro e w2 ⟨rfl, rfl⟩
  go_wp2_with fail
  refine HT.out.mono ?_
  rintro e w2 ⟨rfl, h2⟩
  have H2 := Lib.hid h2
  clear h2
  go_wp2_with fail
  go_ret
  exact ⟨rfl, H2.out⟩

set_option maxRecDepth 100000 in
set_option maxHeartbeats 1500000 in
theorem value_digit (w : World) (S : Nat → Prop) (g : Nat) (s : Sc) (c : Nat) (hd : digitB c = true) (h48 : c ≠ 48) (hs : ScAt w S g s) :
    Calls Tryd.prog 28 #[.pointer (some ⟨g, 0, none⟩), .int .u8 c] w (ScPost w S g (sTo s jDigits true, 0)) := by
  have hmf := mk_f
  have hd1 : 48 < c := by have h := hd; simp [digitB] at h; omega
  have hd2 : c ≤ 57 := by have h := hd; simp [digitB] at h; omega
  have hbf : blankB c = false := by simp [blankB]; omega
  have q91 : ((c : Int) == 91) = false := eqF (by omega)
  have q123 : ((c : Int) == 123) = false := eqF (by omega)
  have q34 : ((c : Int) == 34) = false := eqF (by omega)
  have q45 : ((c : Int) == 45) = false := eqF (by omega)
  have q48 : ((c : Int) == 48) = false := eqF (by omega)
  have HS := Lib.hid hs
  have HM := Lib.hid hs.mem
  have HK := Lib.hid (blank_any c w)
  rw [show blankB c = false from by first | assumption | rfl] at HK
  have HD := Lib.hid (digit_any c w)
  rw [show digitB c = true from by first | assumption | rfl] at HD
  have HT := Lib.hid (to_any _ S g s jDigits true HS.out)
  unfold jDigits at HT
  clear hs hd h48 hd1 hd2 hbf
  go_enter Tryd.func28, Tryd.ntmps28
  go_wp2_with fail
  refine HK.out.mono ?_
  rintro e w2 ⟨rfl, rfl⟩
  go_wp2_with fail
  refine HD.out.mono ?_
  rintro e w2 ⟨rfl, rfl⟩
  go_wp2_with fail
  refine HT.out.mono ?_
  rintro e w2 ⟨rfl, h2⟩
  have H2 := Lib.hid h2
  clear h2
  go_wp2_with fail
  go_ret
  exact ⟨rfl, H2.out⟩

set_option maxRecDepth 100000 in
set_option maxHeartbeats 1500000 in
theorem value_w110 (w : World) (S : Nat → Prop) (g : Nat) (s : Sc) (hs : ScAt w S g s) :
    Calls Tryd.prog 28 #[.pointer (some ⟨g, 0, none⟩), .int .u8 110] w (ScPost w S g (sTo (sRest s strU) jWord false, 0)) := by
  have hmf := mk_f
  have HS := Lib.hid hs
  have HM := Lib.hid hs.mem
  have HK := Lib.hid (blank_any 110 w)
  rw [show blankB 110 = false from by first | assumption | rfl] at HK
  have HD := Lib.hid (digit_any 110 w)
  rw [show digitB 110 = false from by first | assumption | rfl] at HD
  have f5 := hs.fz 5
  have d5 := hs.cell 5 (.string s.rest) (fun _ => rfl)
  have HS2 := Lib.hid (ScAt.store HS.out 5 (.string strU) (sRest s strU) (fun _ => rfl) rfl)
  have HT := Lib.hid (to_any _ S g (sRest s strU) jWord false HS2.out)
  unfold jWord at HT
  unfold strU at HT
  clear hs 
  go_enter Tryd.func28, Tryd.ntmps28
  go_wp2_with fail
  refine HK.out.mono ?_
  rintro e w2 ⟨rfl, rfl⟩
  go_wp2_with fail
  refine HD.out.mono ?_
  rintro e w2 ⟨rfl, rfl⟩
  go_wp2_with fail
  refine HT.out.mono ?_
  rintro e w2 ⟨rfl, h2⟩
  have H2 := Lib.hid h2
  clear h2
  go_wp2_with fail
  go_ret
  exact ScPost.after ((Keeps.refl _ w).setCell (p := ⟨g, 5, none⟩) (.inl HM.out) _) (Fresh.refl _ _) ⟨rfl, H2.out⟩

set_option maxRecDepth 100000 in
set_option maxHeartbeats 1500000 in
theorem value_w116 (w : World) (S : Nat → Prop) (g : Nat) (s : Sc) (hs : ScAt w S g s) :
    Calls Tryd.prog 28 #[.pointer (some ⟨g, 0, none⟩), .int .u8 116] w (ScPost w S g (sTo (sRest s strR) jWord false, 0)) := by
  have hmf := mk_f
  have HS := Lib.hid hs
  have HM := Lib.hid hs.mem
  have HK := Lib.hid (blank_any 116 w)
  rw [show blankB 116 = false from by first | assumption | rfl] at HK
  have HD := Lib.hid (digit_any 116 w)
  rw [show digitB 116 = false from by first | assumption | rfl] at HD
  have f5 := hs.fz 5
  have d5 := hs.cell 5 (.string s.rest) (fun _ => rfl)
  have HS2 := Lib.hid (ScAt.store HS.out 5 (.string strR) (sRest s strR) (fun _ => rfl) rfl)
  have HT := Lib.hid (to_any _ S g (sRest s strR) jWord false HS2.out)
  unfold jWord at HT
  unfold strR at HT
  clear hs 
  go_enter Tryd.func28, Tryd.ntmps28
  go_wp2_with fail
  refine HK.out.mono ?_
  rintro e w2 ⟨rfl, rfl⟩
  go_wp2_with fail
  refine HD.out.mono ?_
  rintro e w2 ⟨rfl, rfl⟩
  go_wp2_with fail
  refine HT.out.mono ?_
  rintro e w2 ⟨rfl, h2⟩
  have H2 := Lib.hid h2
  clear h2
  go_wp2_with fail
  go_ret
  exact ScPost.after ((Keeps.refl _ w).setCell (p := ⟨g, 5, none⟩) (.inl HM.out) _) (Fresh.refl _ _) ⟨rfl, H2.out⟩

set_option maxRecDepth 100000 in
set_option maxHeartbeats 1500000 in
theorem value_w102 (w : World) (S : Nat → Prop) (g : Nat) (s : Sc) (hs : ScAt w S g s) :
    Calls Tryd.prog 28 #[.pointer (some ⟨g, 0, none⟩), .int .u8 102] w (ScPost w S g (sTo (sRest s strA) jWord false, 0)) := by
  have hmf := mk_f
  have HS := Lib.hid hs
  have HM := Lib.hid hs.mem
  have HK := Lib.hid (blank_any 102 w)
  rw [show blankB 102 = false from by first | assumption | rfl] at HK
  have HD := Lib.hid (digit_any 102 w)
  rw [show digitB 102 = false from by first | assumption | rfl] at HD
  have f5 := hs.fz 5
  have d5 := hs.cell 5 (.string s.rest) (fun _ => rfl)
  have HS2 := Lib.hid (ScAt.store HS.out 5 (.string strA) (sRest s strA) (fun _ => rfl) rfl)
  have HT := Lib.hid (to_any _ S g (sRest s strA) jWord false HS2.out)
  unfold jWord at HT
  unfold strA at HT
  clear hs 
  go_enter Tryd.func28, Tryd.ntmps28
  go_wp2_with fail
  refine HK.out.mono ?_
  rintro e w2 ⟨rfl, rfl⟩
  go_wp2_with fail
  refine HD.out.mono ?_
  rintro e w2 ⟨rfl, rfl⟩
  go_wp2_with fail
  refine HT.out.mono ?_
  rintro e w2 ⟨rfl, h2⟩
  have H2 := Lib.hid h2
  clear h2
  go_wp2_with fail
  go_ret
  exact ScPost.after ((Keeps.refl _ w).setCell (p := ⟨g, 5, none⟩) (.inl HM.out) _) (Fresh.refl _ _) ⟨rfl, H2.out⟩

set_option maxRecDepth 100000 in
set_option maxHeartbeats 1500000 in
theorem value_no (w : World) (S : Nat → Prop) (g : Nat) (s : Sc) (c : Nat) (hbf : blankB c = false) (hdf : digitB c = false) (hne : c ≠ 91 ∧ c ≠ 123 ∧ c ≠ 34 ∧ c ≠ 45 ∧ c ≠ 48 ∧ c ≠ 110 ∧ c ≠ 116 ∧ c ≠ 102) (hs : ScAt w S g s) :
    Calls Tryd.prog 28 #[.pointer (some ⟨g, 0, none⟩), .int .u8 c] w (ScPost w S g (s, 3)) := by
  have hmf := mk_f
  have q91 : ((c : Int) == 91) = false := eqF (by omega)
  have q123 : ((c : Int) == 123) = false := eqF (by omega)
  have q34 : ((c : Int) == 34) = false := eqF (by omega)
  have q45 : ((c : Int) == 45) = false := eqF (by omega)
  have q48 : ((c : Int) == 48) = false := eqF (by omega)
  have q110 : ((c : Int) == 110) = false := eqF (by omega)
  have q116 : ((c : Int) == 116) = false := eqF (by omega)
  have q102 : ((c : Int) == 102) = false := eqF (by omega)
  have HS := Lib.hid hs
  have HM := Lib.hid hs.mem
  have HK := Lib.hid (blank_any c w)
  rw [show blankB c = false from by first | assumption | rfl] at HK
  have HD := Lib.hid (digit_any c w)
  rw [show digitB c = false from by first | assumption | rfl] at HD
  clear hs hbf hdf hne
  go_enter Tryd.func28, Tryd.ntmps28
  go_wp2_with fail
  refine HK.out.mono ?_
  rintro e w2 ⟨rfl, rfl⟩
  go_wp2_with fail
  refine HD.out.mono ?_
  rintro e w2 ⟨rfl, rfl⟩
  go_wp2_with fail
  go_ret
  exact ScPost.stay HS.out 3

theorem value_any (w : World) (S : Nat → Prop) (g : Nat) (s : Sc) (c : Nat) (hs : ScAt w S g s) (hl : s.open_.length ≤ 128) :
    Calls Tryd.prog 28 #[.pointer (some ⟨g, 0, none⟩), .int .u8 c] w (ScPost w S g (pValue s c)) := by
  unfold pValue
  by_cases h0 : blankB c = true
  · rw [if_pos h0]; exact value_blank w S g s c h0 hs
  rw [if_neg h0]
  by_cases h1 : c = 91
  · rw [if_pos h1]; subst h1
    by_cases hf : s.open_.length = 128
    · rw [if_pos hf]; exact value_full91 w S g s hs hf
    · rw [if_neg hf]; exact value_open91 w S g s hs (by omega)
  rw [if_neg h1]
  by_cases h2 : c = 123
  · rw [if_pos h2]; subst h2
    by_cases hf : s.open_.length = 128
    · rw [if_pos hf]; exact value_full123 w S g s hs hf
    · rw [if_neg hf]; exact value_open123 w S g s hs (by omega)
  rw [if_neg h2]
  by_cases h3 : c = 34
  · rw [if_pos h3]; subst h3; exact value_quote w S g s hs
  rw [if_neg h3]
  by_cases h4 : c = 45
  · rw [if_pos h4]; subst h4; exact value_minus w S g s hs
  rw [if_neg h4]
  by_cases h5 : c = 48
  · rw [if_pos h5]; subst h5; exact value_zero w S g s hs
  rw [if_neg h5]
  by_cases h6 : digitB c = true
  · rw [if_pos h6]; exact value_digit w S g s c h6 h5 hs
  rw [if_neg h6]
  by_cases h7 : c = 110
  · rw [if_pos h7]; subst h7; exact value_w110 w S g s hs
  rw [if_neg h7]
  by_cases h8 : c = 116
  · rw [if_pos h8]; subst h8; exact value_w116 w S g s hs
  rw [if_neg h8]
  by_cases h9 : c = 102
  · rw [if_pos h9]; subst h9; exact value_w102 w S g s hs
  rw [if_neg h9]
  exact value_no w S g s c (by simpa using h0) (by simpa using h6) ⟨h1, h2, h3, h4, h5, h7, h8, h9⟩ hs
end Go.Proofs.YtjfeebbhkolmoaaDoor
