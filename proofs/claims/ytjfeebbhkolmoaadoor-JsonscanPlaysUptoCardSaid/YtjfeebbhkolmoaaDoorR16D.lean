/- crucibleref16's Scanner: value. -/
import Derived.Test.YtjfeebbhkolmoaaDoorR16A
import Derived.Deep.RegionLaw
import Derived.Test.YtjfeebbhkolmoaaDoorR16B
namespace Go.Proofs.YtjfeebbhkolmoaaDoor.R
open Go.RowKit
set_option linter.unusedVariables false

def strUR : ByteArray := ⟨#[117, 108, 108]⟩
def strRR : ByteArray := ⟨#[114, 117, 101]⟩
def strAR : ByteArray := ⟨#[97, 108, 115, 101]⟩
def addB (b : ByteArray) (c : UInt8) : ByteArray := b ++ ⟨#[c]⟩
def pValue (s : St) (c : Nat) : St × Nat :=
  if c = 91 then (if s.o.open_.size = 128 then (s, 5) else (setM (setO s (addB s.o.open_ 91)) 1, 0))
  else if c = 123 then (if s.o.open_.size = 128 then (s, 5) else (setM (setO s (addB s.o.open_ 123)) 2, 0))
  else if c = 34 then (pLit s false, 0)
  else if c = 110 then (setW (setM s 7) strUR, 0)
  else if c = 116 then (setW (setM s 7) strRR, 0)
  else if c = 102 then (setW (setM s 7) strAR, 0)
  else if c = 45 then (setM s 8, 0)
  else if c = 48 then (setM s 9, 0)
  else if 49 ≤ c ∧ c ≤ 57 then (setM s 10, 0)
  else (s, 3)

theorem conv_91 (w : World) (g : Nat) (h : w.cell? ⟨g, 0, none⟩ = some (.int .u8 91)) : (convert 35 9 (.slice (some ⟨g, 0, none⟩) 1 1)).run Tryd.prog w = .ok (.string ⟨#[91]⟩) w := by
  have := run_convert_bytes_back (P := Tryd.prog) w 35 9 5 ⟨g, 0, none⟩ 1 [91] Tryd.underlying35 Tryd.underlying5 Tryd.underlying9 (by
    intro j hj
    obtain rfl : j = 0 := by simp at hj; omega
    exact h)
  exact this
set_option maxRecDepth 100000 in
set_option maxHeartbeats 1500000 in
theorem value_full91 (w : World) (S : Nat → Prop) (g : Nat) (s : St) (hs : StAt w S g s) (hl : s.o.open_.size = 128) :
    Calls Tryd.prog 92 #[.pointer (some ⟨g, 0, none⟩), .int .u8 91] w (NumPost w S g (s, 5)) := by
  have d2 := hs.cell 2 (.string s.o.open_) (fun _ => rfl)
  have HS := Lib.hid hs
  clear hs
  go_enter Tryd.func92, Tryd.ntmps92
  go_wp2_with fail
  go_ret
  exact ⟨rfl, StLeft.refl HS.out⟩
theorem conv_123 (w : World) (g : Nat) (h : w.cell? ⟨g, 0, none⟩ = some (.int .u8 123)) : (convert 35 9 (.slice (some ⟨g, 0, none⟩) 1 1)).run Tryd.prog w = .ok (.string ⟨#[123]⟩) w := by
  have := run_convert_bytes_back (P := Tryd.prog) w 35 9 5 ⟨g, 0, none⟩ 1 [123] Tryd.underlying35 Tryd.underlying5 Tryd.underlying9 (by
    intro j hj
    obtain rfl : j = 0 := by simp at hj; omega
    exact h)
  exact this
set_option maxRecDepth 100000 in
set_option maxHeartbeats 1500000 in
theorem value_full123 (w : World) (S : Nat → Prop) (g : Nat) (s : St) (hs : StAt w S g s) (hl : s.o.open_.size = 128) :
    Calls Tryd.prog 92 #[.pointer (some ⟨g, 0, none⟩), .int .u8 123] w (NumPost w S g (s, 5)) := by
  have d2 := hs.cell 2 (.string s.o.open_) (fun _ => rfl)
  have HS := Lib.hid hs
  clear hs
  go_enter Tryd.func92, Tryd.ntmps92
  go_wp2_with fail
  go_ret
  exact ⟨rfl, StLeft.refl HS.out⟩
set_option maxRecDepth 100000 in
set_option maxHeartbeats 1500000 in
theorem value_ull (w : World) (S : Nat → Prop) (g : Nat) (s : St) (hs : StAt w S g s) :
    Calls Tryd.prog 92 #[.pointer (some ⟨g, 0, none⟩), .int .u8 110] w (NumPost w S g (setW (setM s 7) strUR, 0)) := by
  have HS := Lib.hid hs
  have HW := Lib.hid (rword_any w S g s strUR hs)
  unfold strUR at HW
  clear hs
  go_enter Tryd.func92, Tryd.ntmps92
  go_wp2_with fail
  refine HW.out.mono ?_
  rintro e w2 ⟨rfl, h2⟩
  have H2 := Lib.hid h2
  clear h2
  go_wp2_with fail
  go_ret
  exact ⟨rfl, H2.out⟩
set_option maxRecDepth 100000 in
set_option maxHeartbeats 1500000 in
theorem value_rue (w : World) (S : Nat → Prop) (g : Nat) (s : St) (hs : StAt w S g s) :
    Calls Tryd.prog 92 #[.pointer (some ⟨g, 0, none⟩), .int .u8 116] w (NumPost w S g (setW (setM s 7) strRR, 0)) := by
  have HS := Lib.hid hs
  have HW := Lib.hid (rword_any w S g s strRR hs)
  unfold strRR at HW
  clear hs
  go_enter Tryd.func92, Tryd.ntmps92
  go_wp2_with fail
  refine HW.out.mono ?_
  rintro e w2 ⟨rfl, h2⟩
  have H2 := Lib.hid h2
  clear h2
  go_wp2_with fail
  go_ret
  exact ⟨rfl, H2.out⟩
set_option maxRecDepth 100000 in
set_option maxHeartbeats 1500000 in
theorem value_alse (w : World) (S : Nat → Prop) (g : Nat) (s : St) (hs : StAt w S g s) :
    Calls Tryd.prog 92 #[.pointer (some ⟨g, 0, none⟩), .int .u8 102] w (NumPost w S g (setW (setM s 7) strAR, 0)) := by
  have HS := Lib.hid hs
  have HW := Lib.hid (rword_any w S g s strAR hs)
  unfold strAR at HW
  clear hs
  go_enter Tryd.func92, Tryd.ntmps92
  go_wp2_with fail
  refine HW.out.mono ?_
  rintro e w2 ⟨rfl, h2⟩
  have H2 := Lib.hid h2
  clear h2
  go_wp2_with fail
  go_ret
  exact ⟨rfl, H2.out⟩
set_option maxRecDepth 100000 in
set_option maxHeartbeats 1500000 in
theorem value_quote (w : World) (S : Nat → Prop) (g : Nat) (s : St) (hs : StAt w S g s) :
    Calls Tryd.prog 92 #[.pointer (some ⟨g, 0, none⟩), .int .u8 34] w (NumPost w S g (pLit s false, 0)) := by
  have HS := Lib.hid hs
  have HW := Lib.hid (rliteral_any w S g s false hs)
  clear hs
  go_enter Tryd.func92, Tryd.ntmps92
  go_wp2_with fail
  refine HW.out.mono ?_
  rintro e w2 ⟨rfl, h2⟩
  have H2 := Lib.hid h2
  clear h2
  go_wp2_with fail
  go_ret
  exact ⟨rfl, H2.out⟩
set_option maxRecDepth 100000 in
set_option maxHeartbeats 1500000 in
theorem value_minus (w : World) (S : Nat → Prop) (g : Nat) (s : St) (hs : StAt w S g s) :
    Calls Tryd.prog 92 #[.pointer (some ⟨g, 0, none⟩), .int .u8 45] w (NumPost w S g (setM s 8, 0)) := by
  have HS := Lib.hid hs
  have d1 := hs.cell 1 (.int .i64 (s.o.mode : Nat)) (fun _ => rfl)
  have f1 := hs.fz 1
  have H1 := Lib.hid (hs.put 1 (.int .i64 8) (setM s 8) (fun _ => rfl) rfl)
  clear hs
  go_enter Tryd.func92, Tryd.ntmps92
  go_wp2_with fail
  go_ret
  exact ⟨rfl, HS.out.left H1.out⟩
set_option maxRecDepth 100000 in
set_option maxHeartbeats 1500000 in
theorem value_zero (w : World) (S : Nat → Prop) (g : Nat) (s : St) (hs : StAt w S g s) :
    Calls Tryd.prog 92 #[.pointer (some ⟨g, 0, none⟩), .int .u8 48] w (NumPost w S g (setM s 9, 0)) := by
  have HS := Lib.hid hs
  have d1 := hs.cell 1 (.int .i64 (s.o.mode : Nat)) (fun _ => rfl)
  have f1 := hs.fz 1
  have H1 := Lib.hid (hs.put 1 (.int .i64 9) (setM s 9) (fun _ => rfl) rfl)
  clear hs
  go_enter Tryd.func92, Tryd.ntmps92
  go_wp2_with fail
  go_ret
  exact ⟨rfl, HS.out.left H1.out⟩
set_option maxRecDepth 100000 in
set_option maxHeartbeats 1500000 in
theorem value_digit (w : World) (S : Nat → Prop) (g : Nat) (s : St) (c : Nat) (h1 : 49 ≤ c) (h2 : c ≤ 57) (hs : StAt w S g s) :
    Calls Tryd.prog 92 #[.pointer (some ⟨g, 0, none⟩), .int .u8 c] w (NumPost w S g (setM s 10, 0)) := by
  have HS := Lib.hid hs
  have q91 : ((c : Int) == 91) = false := eqF (by omega)
  have q123 : ((c : Int) == 123) = false := eqF (by omega)
  have q34 : ((c : Int) == 34) = false := eqF (by omega)
  have q110 : ((c : Int) == 110) = false := eqF (by omega)
  have q116 : ((c : Int) == 116) = false := eqF (by omega)
  have q102 : ((c : Int) == 102) = false := eqF (by omega)
  have q45 : ((c : Int) == 45) = false := eqF (by omega)
  have q48 : ((c : Int) == 48) = false := eqF (by omega)
  have r1 : 49 ≤ (c : Int) := by omega
  have r2 : (c : Int) ≤ 57 := by omega
  clear h1 h2
  have d1 := hs.cell 1 (.int .i64 (s.o.mode : Nat)) (fun _ => rfl)
  have f1 := hs.fz 1
  have H1 := Lib.hid (hs.put 1 (.int .i64 10) (setM s 10) (fun _ => rfl) rfl)
  clear hs
  go_enter Tryd.func92, Tryd.ntmps92
  go_wp2_with fail
  go_ret
  exact ⟨rfl, HS.out.left H1.out⟩
set_option maxRecDepth 100000 in
set_option maxHeartbeats 1500000 in
theorem value_low (w : World) (S : Nat → Prop) (g : Nat) (s : St) (c : Nat) (h1 : c < 49) (n1 : c ≠ 34) (n2 : c ≠ 45) (n3 : c ≠ 48) (hs : StAt w S g s) :
    Calls Tryd.prog 92 #[.pointer (some ⟨g, 0, none⟩), .int .u8 c] w (NumPost w S g (s, 3)) := by
  have HS := Lib.hid hs
  have q91 : ((c : Int) == 91) = false := eqF (by omega)
  have q123 : ((c : Int) == 123) = false := eqF (by omega)
  have q34 : ((c : Int) == 34) = false := eqF (by omega)
  have q110 : ((c : Int) == 110) = false := eqF (by omega)
  have q116 : ((c : Int) == 116) = false := eqF (by omega)
  have q102 : ((c : Int) == 102) = false := eqF (by omega)
  have q45 : ((c : Int) == 45) = false := eqF (by omega)
  have q48 : ((c : Int) == 48) = false := eqF (by omega)
  have r1 : (c : Int) < 49 := by omega
  clear h1 n1 n2 n3
  clear hs
  go_enter Tryd.func92, Tryd.ntmps92
  go_wp2_with fail
  go_ret
  exact ⟨rfl, StLeft.refl HS.out⟩
set_option maxRecDepth 100000 in
set_option maxHeartbeats 1500000 in
theorem value_high (w : World) (S : Nat → Prop) (g : Nat) (s : St) (c : Nat) (h1 : 57 < c) (n1 : c ≠ 91) (n2 : c ≠ 123) (n3 : c ≠ 110) (n4 : c ≠ 116) (n5 : c ≠ 102) (hs : StAt w S g s) :
    Calls Tryd.prog 92 #[.pointer (some ⟨g, 0, none⟩), .int .u8 c] w (NumPost w S g (s, 3)) := by
  have HS := Lib.hid hs
  have q91 : ((c : Int) == 91) = false := eqF (by omega)
  have q123 : ((c : Int) == 123) = false := eqF (by omega)
  have q34 : ((c : Int) == 34) = false := eqF (by omega)
  have q110 : ((c : Int) == 110) = false := eqF (by omega)
  have q116 : ((c : Int) == 116) = false := eqF (by omega)
  have q102 : ((c : Int) == 102) = false := eqF (by omega)
  have q45 : ((c : Int) == 45) = false := eqF (by omega)
  have q48 : ((c : Int) == 48) = false := eqF (by omega)
  have r0 : 49 ≤ (c : Int) := by omega
  have r1 : 57 < (c : Int) := by omega
  clear h1 n1 n2 n3 n4 n5
  clear hs
  go_enter Tryd.func92, Tryd.ntmps92
  go_wp2_with fail
  go_ret
  exact ⟨rfl, StLeft.refl HS.out⟩
end Go.Proofs.YtjfeebbhkolmoaaDoor.R

namespace Go.Proofs.YtjfeebbhkolmoaaDoor.R
open Go.RowKit
set_option linter.unusedVariables false

set_option maxRecDepth 100000 in
set_option maxHeartbeats 1500000 in
theorem value_open91 (w : World) (S : Nat → Prop) (g : Nat) (s : St) (hs : StAt w S g s) (hl : s.o.open_.size < 128) :
    Calls Tryd.prog 92 #[.pointer (some ⟨g, 0, none⟩), .int .u8 91] w (NumPost w S g (setM (setO s (addB s.o.open_ 91)) 1, 0)) := by
  have d2 := hs.cell 2 (.string s.o.open_) (fun _ => rfl)
  have f2 := hs.fz 2
  have HS := Lib.hid hs
  have hne : ((s.o.open_.size : Int) == 128) = false := eqF (by omega)
  have hsz : ¬ (9223372036854775807 < s.o.open_.size + 1) := by omega
  have hlt : g < w.heap.size := hs.lt g hs.mem
  have HA : Hid (StAt (w.alloc (.cells #[.int .u8 91] 5)).drew S g s) := Lib.hid ((hs.keeps (T := fun _ => False) ((Keeps.refl _ _).alloc _) (fun _ _ h => h)).drewN 1)
  have KA : Hid (Keeps S w (w.alloc (.cells #[.int .u8 91] 5)).drew) := Lib.hid (((Keeps.refl _ _).alloc _).drew)
  have H1 : Hid (StAt (((w.setCell ⟨g, 2, none⟩ (.string (s.o.open_ ++ ⟨#[91]⟩))).alloc (.cells #[.int .u8 91] 5)).drew) S g (setO s (addB s.o.open_ 91))) := Lib.hid ((((hs.put 2 (.string (addB s.o.open_ 91)) (setO s (addB s.o.open_ 91)) (fun _ => rfl) rfl)).keeps (T := fun _ => False) ((Keeps.refl _ _).alloc _) (fun _ _ h => h)).drewN 1)
  have K1 : Hid (Keeps S w (((w.setCell ⟨g, 2, none⟩ (.string (s.o.open_ ++ ⟨#[91]⟩))).alloc (.cells #[.int .u8 91] 5)).drew)) := Lib.hid ((((Keeps.refl _ w).setCell (p := ⟨g, 2, none⟩) (.inl hs.mem) _).alloc _).drew)
  have cA := HA.out.cell 2 (.string s.o.open_) (fun _ => rfl)
  have gA := HA.out.fz 2
  have HC := conv_91 (w.alloc (.cells #[.int .u8 91] 5)).drew w.heap.size (one_cell_new w _ _ 0 _ rfl)
  clear hs hl
  go_enter Tryd.func92, Tryd.ntmps92
  go_upto_region 4 with fail
  go_region_law (fail)
  all_goals
    generalize ((w.setCell _ _).alloc _).drew = wq at *
    clear cA gA d2 f2 HC
    have e1 := H1.out.cell 1 (.int .i64 (s.o.mode : Nat)) (fun _ => rfl)
    have g1 := H1.out.fz 1
    have H2 := Lib.hid (H1.out.put 1 (.int .i64 1) (setM (setO s (addB s.o.open_ 91)) 1) (fun _ => rfl) rfl)
    go_wp2_with fail
    go_ret
    exact ⟨rfl, S, H2.out, K1.out.setCell (p := ⟨g, 1, none⟩) (.inl HS.out.mem) _, Fresh.refl _ _⟩
set_option maxRecDepth 100000 in
set_option maxHeartbeats 1500000 in
theorem value_open123 (w : World) (S : Nat → Prop) (g : Nat) (s : St) (hs : StAt w S g s) (hl : s.o.open_.size < 128) :
    Calls Tryd.prog 92 #[.pointer (some ⟨g, 0, none⟩), .int .u8 123] w (NumPost w S g (setM (setO s (addB s.o.open_ 123)) 2, 0)) := by
  have d2 := hs.cell 2 (.string s.o.open_) (fun _ => rfl)
  have f2 := hs.fz 2
  have HS := Lib.hid hs
  have hne : ((s.o.open_.size : Int) == 128) = false := eqF (by omega)
  have hsz : ¬ (9223372036854775807 < s.o.open_.size + 1) := by omega
  have hlt : g < w.heap.size := hs.lt g hs.mem
  have HA : Hid (StAt (w.alloc (.cells #[.int .u8 123] 5)).drew S g s) := Lib.hid ((hs.keeps (T := fun _ => False) ((Keeps.refl _ _).alloc _) (fun _ _ h => h)).drewN 1)
  have KA : Hid (Keeps S w (w.alloc (.cells #[.int .u8 123] 5)).drew) := Lib.hid (((Keeps.refl _ _).alloc _).drew)
  have H1 : Hid (StAt (((w.setCell ⟨g, 2, none⟩ (.string (s.o.open_ ++ ⟨#[123]⟩))).alloc (.cells #[.int .u8 123] 5)).drew) S g (setO s (addB s.o.open_ 123))) := Lib.hid ((((hs.put 2 (.string (addB s.o.open_ 123)) (setO s (addB s.o.open_ 123)) (fun _ => rfl) rfl)).keeps (T := fun _ => False) ((Keeps.refl _ _).alloc _) (fun _ _ h => h)).drewN 1)
  have K1 : Hid (Keeps S w (((w.setCell ⟨g, 2, none⟩ (.string (s.o.open_ ++ ⟨#[123]⟩))).alloc (.cells #[.int .u8 123] 5)).drew)) := Lib.hid ((((Keeps.refl _ w).setCell (p := ⟨g, 2, none⟩) (.inl hs.mem) _).alloc _).drew)
  have cA := HA.out.cell 2 (.string s.o.open_) (fun _ => rfl)
  have gA := HA.out.fz 2
  have HC := conv_123 (w.alloc (.cells #[.int .u8 123] 5)).drew w.heap.size (one_cell_new w _ _ 0 _ rfl)
  clear hs hl
  go_enter Tryd.func92, Tryd.ntmps92
  go_upto_region 4 with fail
  go_region_law (fail)
  all_goals
    generalize ((w.setCell _ _).alloc _).drew = wq at *
    clear cA gA d2 f2 HC
    have e1 := H1.out.cell 1 (.int .i64 (s.o.mode : Nat)) (fun _ => rfl)
    have g1 := H1.out.fz 1
    have H2 := Lib.hid (H1.out.put 1 (.int .i64 1) (setM (setO s (addB s.o.open_ 123)) 1) (fun _ => rfl) rfl)
    have H3 := Lib.hid (H2.out.put 1 (.int .i64 2) (setM (setO s (addB s.o.open_ 123)) 2) (fun _ => rfl) rfl)
    go_wp2_with fail
    go_ret
    exact ⟨rfl, S, H3.out, (K1.out.setCell (p := ⟨g, 1, none⟩) (.inl HS.out.mem) _).setCell (p := ⟨g, 1, none⟩) (.inl HS.out.mem) _, Fresh.refl _ _⟩
end Go.Proofs.YtjfeebbhkolmoaaDoor.R

namespace Go.Proofs.YtjfeebbhkolmoaaDoor.R
open Go.RowKit
set_option linter.unusedVariables false

theorem rvalue_any (w : World) (S : Nat → Prop) (g : Nat) (s : St) (c : Nat) (hl : s.o.open_.size ≤ 128) (hs : StAt w S g s) :
    Calls Tryd.prog 92 #[.pointer (some ⟨g, 0, none⟩), .int .u8 c] w (NumPost w S g (pValue s c)) := by
  unfold pValue
  by_cases h1 : c = 91
  · subst h1
    rw [if_pos rfl]
    by_cases hf : s.o.open_.size = 128
    · rw [if_pos hf]; exact value_full91 w S g s hs hf
    · rw [if_neg hf]; exact value_open91 w S g s hs (by omega)
  rw [if_neg h1]
  by_cases h2 : c = 123
  · subst h2
    rw [if_pos rfl]
    by_cases hf : s.o.open_.size = 128
    · rw [if_pos hf]; exact value_full123 w S g s hs hf
    · rw [if_neg hf]; exact value_open123 w S g s hs (by omega)
  rw [if_neg h2]
  by_cases h3 : c = 34
  · subst h3; exact value_quote w S g s hs
  rw [if_neg h3]
  by_cases h4 : c = 110
  · subst h4; exact value_ull w S g s hs
  rw [if_neg h4]
  by_cases h5 : c = 116
  · subst h5; exact value_rue w S g s hs
  rw [if_neg h5]
  by_cases h6 : c = 102
  · subst h6; exact value_alse w S g s hs
  rw [if_neg h6]
  by_cases h7 : c = 45
  · subst h7; exact value_minus w S g s hs
  rw [if_neg h7]
  by_cases h8 : c = 48
  · subst h8; exact value_zero w S g s hs
  rw [if_neg h8]
  by_cases h9 : 49 ≤ c ∧ c ≤ 57
  · rw [if_pos h9]; exact value_digit w S g s c h9.1 h9.2 hs
  rw [if_neg h9]
  by_cases h10 : c < 49
  · exact value_low w S g s c h10 h3 h7 h8 hs
  · exact value_high w S g s c (by omega) h1 h2 h4 h5 h6 hs

/-- the open brackets are brackets -/
def InO (s : St) : Prop := s.o.open_.size ≤ 128 ∧ (0 < s.o.open_.size → lastB s.o.open_ = 91 ∨ lastB s.o.open_ = 123)
theorem closes_any (w : World) (S : Nat → Prop) (g : Nat) (s : St) (c : Nat) (hi : InO s) (hs : StAt w S g s) :
    Calls Tryd.prog 90 #[.pointer (some ⟨g, 0, none⟩), .int .u8 c] w (BoolPost w S g (pCloses s c)) := by
  unfold pCloses
  by_cases h0 : s.o.open_.size = 0
  · rw [if_neg (by omega)]; exact closes_none w S g s c hs h0
  obtain ⟨k, hk⟩ : ∃ k, s.o.open_.size = k + 1 := ⟨s.o.open_.size - 1, by omega⟩
  have hl : lastB s.o.open_ = (s.o.open_[k]'(by omega)).toNat := by
    unfold lastB
    rw [dif_pos (by omega)]
    congr 2
    omega
  have hk2 : k ≤ 1000 := by have := hi.1; omega
  rcases hi.2 (by omega) with hx | hx
  · by_cases hc : c = 93
    · subst hc; rw [if_pos ⟨by omega, fun _ => rfl, fun h => by omega⟩]; exact closes_lp w S g s hs k hk hk2 (hl.symm.trans hx)
    · rw [if_neg (fun h => hc (h.2.1 hx))]; exact closes_ln w S g s c hs k hk hk2 (hl.symm.trans hx) hc
  · by_cases hc : c = 125
    · subst hc; rw [if_pos ⟨by omega, fun h => by omega, fun _ => rfl⟩]; exact closes_mp w S g s hs k hk hk2 (hl.symm.trans hx)
    · rw [if_neg (fun h => hc (h.2.2 hx))]; exact closes_mn w S g s c hs k hk hk2 (hl.symm.trans hx) hc
theorem closes_same (s : St) (c : Nat) (h : (pCloses s c).2 = false) : (pCloses s c).1 = s := by
  revert h
  unfold pCloses
  split
  · intro h; cases h
  · intro _; rfl

def pSign (s : St) (c : Nat) : St × Nat :=
  if (s.o.mode = 1 ∨ s.o.mode = 2 ∨ s.o.mode = 5) ∧ (c = 93 ∨ c = 125) ∧ (pCloses s c).2 = true then ((pCloses s c).1, 0)
  else if s.o.mode = 4 ∧ c = 58 then (setM s 0, 0)
  else if s.o.mode = 5 ∧ c = 44 ∧ 0 < s.o.open_.size then (setM s (if lastB s.o.open_ = 123 then 3 else 0), 0)
  else if c = 34 ∧ (s.o.mode = 2 ∨ s.o.mode = 3) then (pLit s true, 0)
  else if s.o.mode = 0 ∨ s.o.mode = 1 then pValue s c
  else (s, 3)
end Go.Proofs.YtjfeebbhkolmoaaDoor.R
