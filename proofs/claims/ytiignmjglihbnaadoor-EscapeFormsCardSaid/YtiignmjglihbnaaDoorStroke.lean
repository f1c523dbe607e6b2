/- Contract of (*crucibleref10.State).stroke. -/
import Derived.Test.YtiignmjglihbnaaDoorInsideD
import Derived.Deep.RegionLaw
import Derived.Deep.AppendLies
namespace Go.Proofs.YtiignmjglihbnaaDoor
open Go.RowKit
set_option linter.unusedVariables false

/-- the letters behind a backslash, and what they mean -/
def fromL (j : Nat) : Nat := [34, 92, 47, 98, 102, 110, 114, 116].getD j 0
def toL (j : Nat) : Nat := [34, 92, 47, 8, 12, 10, 13, 9].getD j 0
theorem from_0 (w : World) : (Instr.index 9 (.string ⟨#[34, 92, 47, 98, 102, 110, 114, 116]⟩) (.int .i64 0)).run Tryd.prog w = .ok (.int .u8 34) w := by kernel_rfl
theorem from_1 (w : World) : (Instr.index 9 (.string ⟨#[34, 92, 47, 98, 102, 110, 114, 116]⟩) (.int .i64 1)).run Tryd.prog w = .ok (.int .u8 92) w := by kernel_rfl
theorem from_2 (w : World) : (Instr.index 9 (.string ⟨#[34, 92, 47, 98, 102, 110, 114, 116]⟩) (.int .i64 2)).run Tryd.prog w = .ok (.int .u8 47) w := by kernel_rfl
theorem from_3 (w : World) : (Instr.index 9 (.string ⟨#[34, 92, 47, 98, 102, 110, 114, 116]⟩) (.int .i64 3)).run Tryd.prog w = .ok (.int .u8 98) w := by kernel_rfl
theorem from_4 (w : World) : (Instr.index 9 (.string ⟨#[34, 92, 47, 98, 102, 110, 114, 116]⟩) (.int .i64 4)).run Tryd.prog w = .ok (.int .u8 102) w := by kernel_rfl
theorem from_5 (w : World) : (Instr.index 9 (.string ⟨#[34, 92, 47, 98, 102, 110, 114, 116]⟩) (.int .i64 5)).run Tryd.prog w = .ok (.int .u8 110) w := by kernel_rfl
theorem from_6 (w : World) : (Instr.index 9 (.string ⟨#[34, 92, 47, 98, 102, 110, 114, 116]⟩) (.int .i64 6)).run Tryd.prog w = .ok (.int .u8 114) w := by kernel_rfl
theorem from_7 (w : World) : (Instr.index 9 (.string ⟨#[34, 92, 47, 98, 102, 110, 114, 116]⟩) (.int .i64 7)).run Tryd.prog w = .ok (.int .u8 116) w := by kernel_rfl
theorem from_at (j : Nat) (h : j < 8) (w : World) : (Instr.index 9 (.string ⟨#[34, 92, 47, 98, 102, 110, 114, 116]⟩) (.int .i64 j)).run Tryd.prog w = .ok (.int .u8 (fromL j : Nat)) w := by
  have : j = 0 ∨ j = 1 ∨ j = 2 ∨ j = 3 ∨ j = 4 ∨ j = 5 ∨ j = 6 ∨ j = 7 := by omega
  rcases this with rfl | rfl | rfl | rfl | rfl | rfl | rfl | rfl
  · exact from_0 w
  · exact from_1 w
  · exact from_2 w
  · exact from_3 w
  · exact from_4 w
  · exact from_5 w
  · exact from_6 w
  · exact from_7 w
theorem to_0 (w : World) : (Instr.index 9 (.string ⟨#[34, 92, 47, 8, 12, 10, 13, 9]⟩) (.int .i64 0)).run Tryd.prog w = .ok (.int .u8 34) w := by kernel_rfl
theorem to_1 (w : World) : (Instr.index 9 (.string ⟨#[34, 92, 47, 8, 12, 10, 13, 9]⟩) (.int .i64 1)).run Tryd.prog w = .ok (.int .u8 92) w := by kernel_rfl
theorem to_2 (w : World) : (Instr.index 9 (.string ⟨#[34, 92, 47, 8, 12, 10, 13, 9]⟩) (.int .i64 2)).run Tryd.prog w = .ok (.int .u8 47) w := by kernel_rfl
theorem to_3 (w : World) : (Instr.index 9 (.string ⟨#[34, 92, 47, 8, 12, 10, 13, 9]⟩) (.int .i64 3)).run Tryd.prog w = .ok (.int .u8 8) w := by kernel_rfl
theorem to_4 (w : World) : (Instr.index 9 (.string ⟨#[34, 92, 47, 8, 12, 10, 13, 9]⟩) (.int .i64 4)).run Tryd.prog w = .ok (.int .u8 12) w := by kernel_rfl
theorem to_5 (w : World) : (Instr.index 9 (.string ⟨#[34, 92, 47, 8, 12, 10, 13, 9]⟩) (.int .i64 5)).run Tryd.prog w = .ok (.int .u8 10) w := by kernel_rfl
theorem to_6 (w : World) : (Instr.index 9 (.string ⟨#[34, 92, 47, 8, 12, 10, 13, 9]⟩) (.int .i64 6)).run Tryd.prog w = .ok (.int .u8 13) w := by kernel_rfl
theorem to_7 (w : World) : (Instr.index 9 (.string ⟨#[34, 92, 47, 8, 12, 10, 13, 9]⟩) (.int .i64 7)).run Tryd.prog w = .ok (.int .u8 9) w := by kernel_rfl
theorem to_at (j : Nat) (h : j < 8) (w : World) : (Instr.index 9 (.string ⟨#[34, 92, 47, 8, 12, 10, 13, 9]⟩) (.int .i64 j)).run Tryd.prog w = .ok (.int .u8 (toL j : Nat)) w := by
  have : j = 0 ∨ j = 1 ∨ j = 2 ∨ j = 3 ∨ j = 4 ∨ j = 5 ∨ j = 6 ∨ j = 7 := by omega
  rcases this with rfl | rfl | rfl | rfl | rfl | rfl | rfl | rfl
  · exact to_0 w
  · exact to_1 w
  · exact to_2 w
  · exact to_3 w
  · exact to_4 w
  · exact to_5 w
  · exact to_6 w
  · exact to_7 w
theorem from_ne : ∀ a, a < 8 → ∀ b, b < a → fromL b ≠ fromL a := by decide

theorem app1 {ops : Array Oper} {o : Oper} {a : Act} {K : Act → World → Prop} {Q : Exit → Act → World → Prop} {E : Prop} (w0 : World) (base n : Nat) (u : Value) (xs : List Value) (X : Nat) (hgd : o.guard = none)
    (ho : o.op = .call { callee := .builtin .append, args := #[.tmp 26, .tmp 30], argTypes := #[49, 49] }) (hs : a.eval (.tmp 26) = u) (hx : a.eval (.tmp 30) = .slice (some ⟨w0.drew.heap.size, 0, none⟩) 1 1)
    (hown : w0.ownsRow base 5 1 u n xs) (hn : n + 1 ≤ maxLen) (hn2 : (n + 1) * 1 ≤ 140737488355328) (hb : base ≤ w0.heap.size)
    (h : ∀ v' w', w'.ownsRow base 5 1 v' (n + 1) (xs ++ [.int .u8 X]) → (w0.drew.alloc (.cells #[.int .u8 X] 5)).grownBy w' u.ownBlock → K (a.put o.dst v') w') :
    if Region.wanted o (yielded ops a.tmps) = true then Oper.wp Tryd.prog o a (w0.drew.alloc (.cells #[.int .u8 X] 5)) K Q else E := by
  obtain ⟨i0, hi, hz0, hz1, hz2⟩ := info_parts info_u8
  have hw : Region.wanted o (yielded ops a.tmps) = true := by simp [Region.wanted, hgd]
  rw [if_pos hw]
  exact wp_append_own _ (.tmp 26) (.tmp 30) 49 ho base 5 i0 (.int .u8 0) 1 1 Tryd.underlying49 hi hz0 hz1 hz2 rfl (by decide) u n xs hs ((show w0.drew.ownsRow base 5 1 u n xs from hown).alloc _) ⟨w0.drew.heap.size, 0, none⟩ 1 1 [.int .u8 X] hx rfl
    (World.news_of_block (cs := #[.int .u8 X]) (t := 5) (fr := (0, 0)) (heap_alloc_new w0.drew _)) (by intro v hv; simp at hv; subst hv; rfl) hn (by omega) (by simp; omega) (fun v' w' h1 h2 _ => h v' w' h1 h2)

def StrokeRel (w : World) (J : Nat) (v7 : Value) (wr : World) : Prop := ∃ j : Nat, j ≤ J ∧ v7 = .int .i64 j ∧ w = wr

set_option maxRecDepth 100000 in
set_option maxHeartbeats 1500000 in
theorem stroke_u (w : World) (base g : Nat) (s : St) (hs : StAt w base g s) (hg : base ≤ g) :
    Calls Tryd.prog 38 #[.pointer (some ⟨g, 0, none⟩), .int .u8 117] w (StPost w base g { s with mode := 3, left := 4, number := 0 } true) := by
  obtain ⟨v, hb, ho⟩ := hs
  have HN := Lib.hid (StAt.ne hb ho)
  have HB := Lib.hid hb
  have HO := Lib.hid ho
  have c0 := hb.cell 0
  have c1 := hb.cell 1
  have c2 := hb.cell 2
  have f0 := hb.frozen 0
  have f1 := hb.frozen 1
  have f2 := hb.frozen 2
  unfold stCells at c0 c1 c2
  clear hb ho
  go_enter Tryd.func38, Tryd.ntmps38
  go_wp2_with fail
  go_loopw [7] (fun v7 wr => StrokeRel w 8 v7 wr) (fun v7 _ => 8 - (intOf v7).toNat)
  case atStart => exact ⟨0, by omega, rfl, rfl⟩
  case round =>
    obtain ⟨j, hj, rfl, rfl⟩ := hrel
    have j0 : 0 ≤ (j : Int) := by omega
    by_cases hlt : j < 8
    · have j1 : (j : Int) < 8 := by omega
      have HI := from_at j hlt
      have q : (((fromL j : Nat) : Int) == (117 : Int)) = false := (show ∀ j, j < 8 → (((fromL j : Nat) : Int) == (117 : Int)) = false by decide) j hlt
      generalize fromL j = fj at *
      go_wp2_with fail
      go_roundw
      case rel => exact ⟨j + 1, by omega, by go_num, rfl⟩
      case measure => simp [intOf]; omega
    · obtain rfl : j = 8 := by omega
      go_wp2_with fail
      go_ret
      exact ⟨rfl, ⟨v, stSet2 (stSet1 (stSet0 (HB.out) 3) 4) 0, own_far' (own_far' (own_far' (HO.out) HN.out 0 _) HN.out 1 _) HN.out 2 _⟩, (((Below.refl _ _).setCell (p := ⟨g, 0, none⟩) hg _).setCell (p := ⟨g, 1, none⟩) hg _).setCell (p := ⟨g, 2, none⟩) hg _, by simp⟩

set_option maxRecDepth 100000 in
set_option maxHeartbeats 1500000 in
theorem stroke_no (w : World) (base g : Nat) (s : St) (hs : StAt w base g s) (hg : base ≤ g) (c : Nat) (hne : ∀ j, j < 8 → fromL j ≠ c) (h117 : c ≠ 117) :
    Calls Tryd.prog 38 #[.pointer (some ⟨g, 0, none⟩), .int .u8 c] w (StPost w base g { s with mode := 3, left := 4, number := 0 } false) := by
  obtain ⟨v, hb, ho⟩ := hs
  have HN := Lib.hid (StAt.ne hb ho)
  have HB := Lib.hid hb
  have HO := Lib.hid ho
  have c0 := hb.cell 0
  have c1 := hb.cell 1
  have c2 := hb.cell 2
  have f0 := hb.frozen 0
  have f1 := hb.frozen 1
  have f2 := hb.frozen 2
  unfold stCells at c0 c1 c2
  clear hb ho
  have q117 : ((c : Int) == 117) = false := eqF (by omega)
  have HNE := Lib.hid hne
  clear hne h117
  go_enter Tryd.func38, Tryd.ntmps38
  go_wp2_with fail
  go_loopw [7] (fun v7 wr => StrokeRel w 8 v7 wr) (fun v7 _ => 8 - (intOf v7).toNat)
  case atStart => exact ⟨0, by omega, rfl, rfl⟩
  case round =>
    obtain ⟨j, hj, rfl, rfl⟩ := hrel
    have j0 : 0 ≤ (j : Int) := by omega
    by_cases hlt : j < 8
    · have j1 : (j : Int) < 8 := by omega
      have HI := from_at j hlt
      have q : (((fromL j : Nat) : Int) == (c : Int)) = false := eqF (by have := HNE.out j hlt; omega)
      generalize fromL j = fj at *
      go_wp2_with fail
      go_roundw
      case rel => exact ⟨j + 1, by omega, by go_num, rfl⟩
      case measure => simp [intOf]; omega
    · obtain rfl : j = 8 := by omega
      go_wp2_with fail
      go_ret
      exact ⟨rfl, ⟨v, stSet2 (stSet1 (stSet0 (HB.out) 3) 4) 0, own_far' (own_far' (own_far' (HO.out) HN.out 0 _) HN.out 1 _) HN.out 2 _⟩, (((Below.refl _ _).setCell (p := ⟨g, 0, none⟩) hg _).setCell (p := ⟨g, 1, none⟩) hg _).setCell (p := ⟨g, 2, none⟩) hg _, by simp⟩

set_option maxRecDepth 100000 in
set_option maxHeartbeats 1500000 in
theorem stroke_letter (w : World) (base g : Nat) (s : St) (hs : StAt w base g s) (hg : base ≤ g) (hbs : base ≤ w.heap.size) (hl : s.text.length ≤ 140737488355000) (J : Nat) (hJ : J < 8) :
    Calls Tryd.prog 38 #[.pointer (some ⟨g, 0, none⟩), .int .u8 (fromL J : Nat)] w (StPost w base g { s with mode := 1, text := s.text ++ [toL J] } true) := by
  obtain ⟨v, hb, ho⟩ := hs
  have HN := Lib.hid (StAt.ne hb ho)
  have HB := Lib.hid hb
  have HO := Lib.hid ho
  have HL := Lib.hid hl
  have c0 := hb.cell 0
  have f0 := hb.frozen 0
  unfold stCells at c0
  clear hb ho hl
  go_enter Tryd.func38, Tryd.ntmps38
  go_wp2_with fail
  go_loopw [7] (fun v7 wr => StrokeRel w J v7 wr) (fun v7 _ => 8 - (intOf v7).toNat)
  case atStart => exact ⟨0, by omega, rfl, rfl⟩
  case round =>
    obtain ⟨j, hj, rfl, rfl⟩ := hrel
    have j0 : 0 ≤ (j : Int) := by omega
    have j1 : (j : Int) < 8 := by omega
    have HI := from_at j (by omega)
    by_cases hlt : j < J
    · have q : (((fromL j : Nat) : Int) == ((fromL J : Nat) : Int)) = false := eqF (by have := from_ne J hJ j hlt; omega)
      generalize fromL j = fj at *
      generalize fromL J = fJ at *
      go_wp2_with fail
      go_roundw
      case rel => exact ⟨j + 1, by omega, by go_num, rfl⟩
      case measure => simp [intOf]; omega
    · obtain rfl : j = J := by omega
      have HT := to_at j hJ
      generalize fromL j = fj at *
      generalize toL j = X at *
      go_wp2_with fail
      have HB1 := Lib.hid (stSet0 (HB.out) 1)
      have HO1 := Lib.hid (own_far' (HO.out) HN.out 0 (.int .i64 1))
      have HBW : Hid (Below base w (w.setCell ⟨g, 0, none⟩ (.int .i64 1))) := Lib.hid ((Below.refl _ _).setCell (p := ⟨g, 0, none⟩) hg _)
      have HSZ : Hid ((w.setCell ⟨g, 0, none⟩ (.int .i64 1)).heap.size = w.heap.size) := Lib.hid (by simp)
      clear c0 f0
      generalize w.setCell ⟨g, 0, none⟩ (.int .i64 1) = w1 at *
      have c6 := HB1.out.cell 6
      have f6 := HB1.out.frozen 6
      unfold stCells at c6
      have HC6 := Lib.hid c6
      have HCA : Hid (∀ o, (w1.alloc o).cell? ⟨g, 6, none⟩ = some v) := Lib.hid (fun o => (HB1.out.alloc o).cell 6)
      have hmax : s.text.length + 1 ≤ maxLen := by unfold maxLen; have := HL.out; omega
      have hbytes : (s.text.length + 1) * 1 ≤ 140737488355328 := by have := HL.out; omega
      have hbase : base ≤ w1.heap.size := by rw [HSZ.out]; exact hbs
      have nn : w1.heap.size ≠ g := Nat.ne_of_gt (World.block_lt_of_cell? w1 _ c6)
      have n2 : g ≠ w1.heap.size := nn.symm
      have cA : ∀ o, (w1.drew.alloc o).cell? ⟨g, 6, none⟩ = some v := HCA.out
      have cB : ∀ o, (w1.alloc o).cell? ⟨g, 6, none⟩ = some v := HCA.out
      go_region_law
        (first
          | (refine app1 w1 base s.text.length _ _ X (by rfl) (by rfl) (by rfl) (by rfl) HO1.out hmax hbytes hbase ?_; intro v2 w2 hown2 hgrow; obtain ⟨A2, k2, rfl, -, -, -, -⟩ := own_rd hown2; have HB2 := Lib.hid ((HB1.out.drew.alloc (.cells #[.int .u8 X] 5)).grown hgrow (fun k => HN.out k.symm)); have HO2 : Hid (w2.ownsRow base 5 1 (.slice A2 (s.text.length + 1) k2) (s.text ++ [X]).length (vals .u8 (s.text ++ [X]))) := Lib.hid (by rw [List.length_append, vals_snoc]; exact hown2); have HB4 := Lib.hid (((below_drewN' HBW.out 1).alloc (by have := HSZ.out; simp; omega) (.cells #[.int .u8 X] 5)).grown hgrow (by have := HSZ.out; simp; omega) (fun q hq => (HO1.out.lt q hq).1)); have HB5 : Hid (w1.heap.size ≤ w2.heap.size) := Lib.hid (by have := hgrow.size; simp at this; omega); have d6 := HB2.out.cell 6; unfold stCells at d6; have g6 := HB2.out.frozen 6; clear hown2 hgrow))
      all_goals
        go_wp2_with fail
        go_ret
        exact ⟨rfl, ⟨_, stText (stSet6 HB2.out _) (s.text ++ [X]), own_far' HO2.out (StAt.ne HB2.out HO2.out) 6 _⟩, HB4.out.setCell (p := ⟨g, 6, none⟩) hg _, by have := HB5.out; have := HSZ.out; simp; omega⟩
end Go.Proofs.YtiignmjglihbnaaDoor
