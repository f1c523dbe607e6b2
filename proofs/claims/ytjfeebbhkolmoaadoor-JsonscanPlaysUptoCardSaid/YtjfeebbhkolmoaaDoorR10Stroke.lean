/- Contract of (*crucibleref10.State).stroke. -/
import Derived.Test.YtjfeebbhkolmoaaDoorR10InsideD
import Derived.Deep.RegionLaw
import Derived.Deep.AppendLies
namespace Go.Proofs.YtjfeebbhkolmoaaDoor.R
open Go.RowKit
set_option linter.unusedVariables false

/-- the letters behind a backslash, and what they mean -/
def fromL (j : Nat) : Nat := [34, 92, 47, 98, 102, 110, 114, 116].getD j 0
def toL (j : Nat) : Nat := [34, 92, 47, 8, 12, 10, 13, 9].getD j 0
theorem from_0 (w : World) : (Instr.index 9 (.string ⟨#[34, 92, 47, 98, 102, 110, 114, 116]⟩) (.int .i64 0)).run Tryd.prog w = .ok (.int .u8 34) w := by kernel_rfl
theorem from_1 (w : World) : (Instr.index 9 (.string ⟨#[34, 92, 47, 98, 102, 110, 114, 116]⟩) (.int .i64 1)).run Tryd.prog w = .ok (.int .u8 92) w := by kernel_rfl
theorem from_2 (w : World) : (Instr.index 9 (.string ⟨#[34, 92, 47, 98, 102, 110, 114, 116]⟩) (.int .i64 2)).run Tryd.prog w = .ok (.int .u8 47) w := by kernel_rfl
theorem from_3 (w : World) : (Instr.index 9 (.string ⟨#[34, 92, 47, 98, 102, 110, 114, 116]⟩) (.int .i64 3)).run Tryd.prog w = .ok (.int .u8 98) w := by kernel_rfl
theorem from_4 (w : World) : (Instr.index 9 (.string ⟨#[34, 92, 47, 98, 102, 110, 114, 116]⟩) (.int .i64 4)).run Tryd.prog w = .ok (.int .u8 102) w := by kernel_rfl
theorem from_5 (w : World) : (Instr.index 9 (.string ⟨#[34, 92, 47, 98, 102, 110, 114, 116]⟩) (.int .i64 5)).run Tryd.prog w = .ok (.int .u8 110) w := by kernel_rfl
theorem from_6 (w : World) : (Instr.index 9 (.string ⟨#[34, 92, 47, 98, 102, 110, 114, 116]⟩) (.int .i64 6)).run Tryd.prog w = .ok (.int .u8 114) w := by kernel_rfl
theorem from_7 (w : World) : (Instr.index 9 (.string ⟨#[34, 92, 47, 98, 102, 110, 114, 116]⟩) (.int .i64 7)).run Tryd.prog w = .ok (.int .u8 116) w := by kernel_rfl
theorem from_at (j : Nat) (h : j < 8) (w : World) : (Instr.index 9 (.string ⟨#[34, 92, 47, 98, 102, 110, 114, 116]⟩) (.int .i64 j)).run Tryd.prog w = .ok (.int .u8 (fromL j : Nat)) w := by
  have : j = 0 ∨ j = 1 ∨ j = 2 ∨ j = 3 ∨ j = 4 ∨ j = 5 ∨ j = 6 ∨ j = 7 := by omega
  rcases this with rfl | rfl | rfl | rfl | rfl | rfl | rfl | rfl
  · exact from_0 w
  · exact from_1 w
  · exact from_2 w
  · exact from_3 w
  · exact from_4 w
  · exact from_5 w
  · exact from_6 w
  · exact from_7 w
theorem to_0 (w : World) : (Instr.index 9 (.string ⟨#[34, 92, 47, 8, 12, 10, 13, 9]⟩) (.int .i64 0)).run Tryd.prog w = .ok (.int .u8 34) w := by kernel_rfl
theorem to_1 (w : World) : (Instr.index 9 (.string ⟨#[34, 92, 47, 8, 12, 10, 13, 9]⟩) (.int .i64 1)).run Tryd.prog w = .ok (.int .u8 92) w := by kernel_rfl
theorem to_2 (w : World) : (Instr.index 9 (.string ⟨#[34, 92, 47, 8, 12, 10, 13, 9]⟩) (.int .i64 2)).run Tryd.prog w = .ok (.int .u8 47) w := by kernel_rfl
theorem to_3 (w : World) : (Instr.index 9 (.string ⟨#[34, 92, 47, 8, 12, 10, 13, 9]⟩) (.int .i64 3)).run Tryd.prog w = .ok (.int .u8 8) w := by kernel_rfl
theorem to_4 (w : World) : (Instr.index 9 (.string ⟨#[34, 92, 47, 8, 12, 10, 13, 9]⟩) (.int .i64 4)).run Tryd.prog w = .ok (.int .u8 12) w := by kernel_rfl
theorem to_5 (w : World) : (Instr.index 9 (.string ⟨#[34, 92, 47, 8, 12, 10, 13, 9]⟩) (.int .i64 5)).run Tryd.prog w = .ok (.int .u8 10) w := by kernel_rfl
theorem to_6 (w : World) : (Instr.index 9 (.string ⟨#[34, 92, 47, 8, 12, 10, 13, 9]⟩) (.int .i64 6)).run Tryd.prog w = .ok (.int .u8 13) w := by kernel_rfl
theorem to_7 (w : World) : (Instr.index 9 (.string ⟨#[34, 92, 47, 8, 12, 10, 13, 9]⟩) (.int .i64 7)).run Tryd.prog w = .ok (.int .u8 9) w := by kernel_rfl
theorem to_at (j : Nat) (h : j < 8) (w : World) : (Instr.index 9 (.string ⟨#[34, 92, 47, 8, 12, 10, 13, 9]⟩) (.int .i64 j)).run Tryd.prog w = .ok (.int .u8 (toL j : Nat)) w := by
  have : j = 0 ∨ j = 1 ∨ j = 2 ∨ j = 3 ∨ j = 4 ∨ j = 5 ∨ j = 6 ∨ j = 7 := by omega
  rcases this with rfl | rfl | rfl | rfl | rfl | rfl | rfl | rfl
  · exact to_0 w
  · exact to_1 w
  · exact to_2 w
  · exact to_3 w
  · exact to_4 w
  · exact to_5 w
  · exact to_6 w
  · exact to_7 w
theorem from_ne : ∀ a, a < 8 → ∀ b, b < a → fromL b ≠ fromL a := by decide

theorem app1 {ops : Array Oper} {o : Oper} {a : Act} {K : Act → World → Prop} {Q : Exit → Act → World → Prop} {E : Prop} (w0 : World) (n : Nat) (u : Value) (xs : List Value) (X : Nat) (hgd : o.guard = none)
    (ho : o.op = .call { callee := .builtin .append, args := #[.tmp 26, .tmp 30], argTypes := #[35, 35] }) (hs : a.eval (.tmp 26) = u) (hx : a.eval (.tmp 30) = .slice (some ⟨w0.drew.heap.size, 0, none⟩) 1 1)
    (hown : w0.ownsRow 0 5 1 u n xs) (hn : n + 1 ≤ maxLen) (hn2 : (n + 1) * 1 ≤ 140737488355328)
    (h : ∀ v' w', w'.ownsRow 0 5 1 v' (n + 1) (xs ++ [.int .u8 X]) → (w0.drew.alloc (.cells #[.int .u8 X] 5)).grownBy w' u.ownBlock → (v'.ownBlock = u.ownBlock ∨ v'.ownBlock = some (w0.drew.alloc (.cells #[.int .u8 X] 5)).heap.size) → K (a.put o.dst v') w') :
    if Region.wanted o (yielded ops a.tmps) = true then Oper.wp Tryd.prog o a (w0.drew.alloc (.cells #[.int .u8 X] 5)) K Q else E := by
  obtain ⟨i0, hi, hz0, hz1, hz2⟩ := info_parts info_u8
  exact step_append_any _ hgd (.tmp 26) (.tmp 30) 35 ho 0 5 i0 (.int .u8 0) 1 1 Tryd.underlying35 hi hz0 hz1 hz2 rfl (by decide) u n xs hs ((show w0.drew.ownsRow 0 5 1 u n xs from hown).alloc _) (w0.drew.heap.size + 1) (some ⟨w0.drew.heap.size, 0, none⟩) 1 1 [.int .u8 X] hx ⟨rfl, fun _ => ⟨_, rfl, by simp, one_cell_new _ _ _⟩⟩
    (one_oneCell rfl) hn (by omega) (Nat.zero_le _) h

def StrokeRel (w : World) (J : Nat) (v7 : Value) (wr : World) : Prop := ∃ j : Nat, j ≤ J ∧ v7 = .int .i64 j ∧ w = wr

set_option maxRecDepth 100000 in
set_option maxHeartbeats 1500000 in
theorem stroke_u (w : World) (S : Nat → Prop) (g : Nat) (s : St) (hs : StAt w S g s) :
    Calls Tryd.prog 88 #[.pointer (some ⟨g, 3, none⟩), .int .u8 117] w (StPost w S g { s with mode := 3, left := 4, number := 0 } true) := by
  obtain ⟨v, hb, ho, rfl⟩ := hs
  have HN := Lib.hid (StAt.ne hb ho)
  have HB := Lib.hid hb
  have HO := Lib.hid ho
  have c0 := hb.cell 3
  have c1 := hb.cell 4
  have c2 := hb.cell 5
  have f0 := hb.frozen 3
  have f1 := hb.frozen 4
  have f2 := hb.frozen 5
  unfold stCells at c0 c1 c2
  clear hb ho
  go_enter Tryd.func88, Tryd.ntmps88
  go_wp2_with fail
  go_loopw [7] (fun v7 wr => StrokeRel w 8 v7 wr) (fun v7 _ => 8 - (intOf v7).toNat)
  case atStart => exact ⟨0, by omega, rfl, rfl⟩
  case round =>
    obtain ⟨j, hj, rfl, rfl⟩ := hrel
    have j0 : 0 ≤ (j : Int) := by omega
    by_cases hlt : j < 8
    · have j1 : (j : Int) < 8 := by omega
      have HI := from_at j hlt
      have q : (((fromL j : Nat) : Int) == (117 : Int)) = false := (show ∀ j, j < 8 → (((fromL j : Nat) : Int) == (117 : Int)) = false by decide) j hlt
      generalize fromL j = fj at *
      go_wp2_with fail
      go_roundw
      case rel => exact ⟨j + 1, by omega, by go_num, rfl⟩
      case measure => simp [intOf]; omega
    · obtain rfl : j = 8 := by omega
      go_wp2_with fail
      go_ret
      exact stSame (stSet2 (stSet1 (stSet0 (HB.out) 3) 4) 0) (own_far' (own_far' (own_far' (HO.out) HN.out 3 _) HN.out 4 _) HN.out 5 _) ((((Keeps.refl _ _).setCell (p := ⟨g, 3, none⟩) (.inl (.inl rfl)) _).setCell (p := ⟨g, 4, none⟩) (.inl (.inl rfl)) _).setCell (p := ⟨g, 5, none⟩) (.inl (.inl rfl)) _)

set_option maxRecDepth 100000 in
set_option maxHeartbeats 1500000 in
theorem stroke_no (w : World) (S : Nat → Prop) (g : Nat) (s : St) (hs : StAt w S g s) (c : Nat) (hne : ∀ j, j < 8 → fromL j ≠ c) (h117 : c ≠ 117) :
    Calls Tryd.prog 88 #[.pointer (some ⟨g, 3, none⟩), .int .u8 c] w (StPost w S g { s with mode := 3, left := 4, number := 0 } false) := by
  obtain ⟨v, hb, ho, rfl⟩ := hs
  have HN := Lib.hid (StAt.ne hb ho)
  have HB := Lib.hid hb
  have HO := Lib.hid ho
  have c0 := hb.cell 3
  have c1 := hb.cell 4
  have c2 := hb.cell 5
  have f0 := hb.frozen 3
  have f1 := hb.frozen 4
  have f2 := hb.frozen 5
  unfold stCells at c0 c1 c2
  clear hb ho
  have q117 : ((c : Int) == 117) = false := eqF (by omega)
  have HNE := Lib.hid hne
  clear hne h117
  go_enter Tryd.func88, Tryd.ntmps88
  go_wp2_with fail
  go_loopw [7] (fun v7 wr => StrokeRel w 8 v7 wr) (fun v7 _ => 8 - (intOf v7).toNat)
  case atStart => exact ⟨0, by omega, rfl, rfl⟩
  case round =>
    obtain ⟨j, hj, rfl, rfl⟩ := hrel
    have j0 : 0 ≤ (j : Int) := by omega
    by_cases hlt : j < 8
    · have j1 : (j : Int) < 8 := by omega
      have HI := from_at j hlt
      have q : (((fromL j : Nat) : Int) == (c : Int)) = false := eqF (by have := HNE.out j hlt; omega)
      generalize fromL j = fj at *
      go_wp2_with fail
      go_roundw
      case rel => exact ⟨j + 1, by omega, by go_num, rfl⟩
      case measure => simp [intOf]; omega
    · obtain rfl : j = 8 := by omega
      go_wp2_with fail
      go_ret
      exact stSame (stSet2 (stSet1 (stSet0 (HB.out) 3) 4) 0) (own_far' (own_far' (own_far' (HO.out) HN.out 3 _) HN.out 4 _) HN.out 5 _) ((((Keeps.refl _ _).setCell (p := ⟨g, 3, none⟩) (.inl (.inl rfl)) _).setCell (p := ⟨g, 4, none⟩) (.inl (.inl rfl)) _).setCell (p := ⟨g, 5, none⟩) (.inl (.inl rfl)) _)

set_option maxRecDepth 100000 in
set_option maxHeartbeats 1500000 in
theorem stroke_letter (w : World) (S : Nat → Prop) (g : Nat) (s : St) (hs : StAt w S g s) (hl : s.text.length ≤ 140737488355000) (J : Nat) (hJ : J < 8) :
    Calls Tryd.prog 88 #[.pointer (some ⟨g, 3, none⟩), .int .u8 (fromL J : Nat)] w (StPost w S g { s with mode := 1, text := s.text ++ [toL J] } true) := by
  obtain ⟨v, hb, ho, rfl⟩ := hs
  have HN := Lib.hid (StAt.ne hb ho)
  have HB := Lib.hid hb
  have HO := Lib.hid ho
  have HL := Lib.hid hl
  have c0 := hb.cell 3
  have f0 := hb.frozen 3
  unfold stCells at c0
  clear hb ho hl
  go_enter Tryd.func88, Tryd.ntmps88
  go_wp2_with fail
  go_loopw [7] (fun v7 wr => StrokeRel w J v7 wr) (fun v7 _ => 8 - (intOf v7).toNat)
  case atStart => exact ⟨0, by omega, rfl, rfl⟩
  case round =>
    obtain ⟨j, hj, rfl, rfl⟩ := hrel
    have j0 : 0 ≤ (j : Int) := by omega
    have j1 : (j : Int) < 8 := by omega
    have HI := from_at j (by omega)
    by_cases hlt : j < J
    · have q : (((fromL j : Nat) : Int) == ((fromL J : Nat) : Int)) = false := eqF (by have := from_ne J hJ j hlt; omega)
      generalize fromL j = fj at *
      generalize fromL J = fJ at *
      go_wp2_with fail
      go_roundw
      case rel => exact ⟨j + 1, by omega, by go_num, rfl⟩
      case measure => simp [intOf]; omega
    · obtain rfl : j = J := by omega
      have HT := to_at j hJ
      generalize fromL j = fj at *
      generalize toL j = X at *
      go_wp2_with fail
      have HB1 := Lib.hid (stSet0 (HB.out) 1)
      have HO1 := Lib.hid (own_far' (HO.out) HN.out 3 (.int .i64 1))
      have HBW : Hid (Keeps (SO g v) w (w.setCell ⟨g, 3, none⟩ (.int .i64 1))) := Lib.hid ((Keeps.refl _ _).setCell (p := ⟨g, 3, none⟩) (.inl (.inl rfl)) _)
      have HSZ : Hid ((w.setCell ⟨g, 3, none⟩ (.int .i64 1)).heap.size = w.heap.size) := Lib.hid (by simp)
      clear c0 f0
      generalize w.setCell ⟨g, 3, none⟩ (.int .i64 1) = w1 at *
      have c6 := HB1.out.cell 9
      have f6 := HB1.out.frozen 9
      unfold stCells at c6
      have HC6 := Lib.hid c6
      have HCA : Hid (∀ o, (w1.alloc o).cell? ⟨g, 9, none⟩ = some v) := Lib.hid (fun o => (HB1.out.alloc o).cell 9)
      have hmax : s.text.length + 1 ≤ maxLen := by unfold maxLen; have := HL.out; omega
      have hbytes : (s.text.length + 1) * 1 ≤ 140737488355328 := by have := HL.out; omega
      have nn : w1.heap.size ≠ g := Nat.ne_of_gt (World.block_lt_of_cell? w1 _ c6)
      have n2 : g ≠ w1.heap.size := nn.symm
      have cA : ∀ o, (w1.drew.alloc o).cell? ⟨g, 9, none⟩ = some v := HCA.out
      have cB : ∀ o, (w1.alloc o).cell? ⟨g, 9, none⟩ = some v := HCA.out
      go_region_law
        (first
          | (refine app1 w1 s.text.length _ _ X (by rfl) (by rfl) (by rfl) (by rfl) HO1.out hmax hbytes ?_; intro v2 w2 hown2 hgrow hor; obtain ⟨A2, k2, rfl, -, -, -, -⟩ := own_rd hown2; have HB2 := Lib.hid ((HB1.out.drew.alloc (.cells #[.int .u8 X] 5)).grown hgrow (fun k => HN.out k.symm)); have HO2 : Hid (w2.ownsRow 0 5 1 (.slice A2 (s.text.length + 1) k2) (s.text ++ [X]).length (vals .u8 (s.text ++ [X]))) := Lib.hid (by rw [List.length_append, vals_snoc]; exact hown2); have HB4 := Lib.hid (((HBW.out.drewN 1).alloc (.cells #[.int .u8 X] 5)).grown hgrow (fun k h => .inl (.inr h))); have HFR := Lib.hid (fr_of (g := g) (a := w) hor (by have := HSZ.out; simp; omega)); have HB5 : Hid (w1.heap.size ≤ w2.heap.size) := Lib.hid (by have := hgrow.size; simp at this; omega); have d6 := HB2.out.cell 9; unfold stCells at d6; have g6 := HB2.out.frozen 9; clear hown2 hgrow hor))
      all_goals
        go_wp2_with fail
        go_ret
        exact stNew (stText (stSet6 HB2.out _) (s.text ++ [X])) (own_far' HO2.out (StAt.ne HB2.out HO2.out) 9 _) (HB4.out.setCell (p := ⟨g, 9, none⟩) (.inl (.inl rfl)) _) HFR.out
end Go.Proofs.YtjfeebbhkolmoaaDoor.R
