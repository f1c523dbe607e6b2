/- Contract of (*crucibleref10.State).digits: the ways that append an encoding. -/
import Derived.Test.YtjfeebbhkolmoaaDoorR10Digit
import Derived.Test.YtjfeebbhkolmoaaDoorR10InsideD
import Derived.Deep.RegionLaw
namespace Go.Proofs.YtjfeebbhkolmoaaDoor.R
open Go.RowKit
set_option linter.unusedVariables false

theorem encN_len (n : Nat) : 1 ≤ (encN n).length ∧ (encN n).length ≤ 4 := by
  unfold encN
  by_cases h1 : n < 128
  · rw [if_pos h1]; simp
  rw [if_neg h1]
  by_cases h2 : n < 2048
  · rw [if_pos h2]; simp
  rw [if_neg h2]
  by_cases h3 : n < 65536
  · rw [if_pos h3]; simp
  rw [if_neg h3]; simp
theorem vals_one' (x : Value) (ys : List Nat) (h : x ∈ vals .u8 ys) : x.oneCell' = true := by
  unfold vals at h
  obtain ⟨y, -, rfl⟩ := List.mem_map.1 h
  rfl
/-- append of a whole block of bytes, as a step of a region that draws -/
theorem appE {ops : Array Oper} {o : Oper} {a : Act} {K : Act → World → Prop} {Q : Exit → Act → World → Prop} {E : Prop} (tS tX : Nat) (w0 : World) (n gx k : Nat) (u : Value) (xs : List Value) (ys : List Nat) (hgd : o.guard = none)
    (ho : o.op = .call { callee := .builtin .append, args := #[.tmp tS, .tmp tX], argTypes := #[35, 35] }) (hs : a.eval (.tmp tS) = u) (hx : a.eval (.tmp tX) = .slice (some ⟨gx, 0, none⟩) k k) (hk : k = ys.length) (hk4 : k ≤ 4)
    (hcell : w0.heap[gx]? = some (.cells (vals .u8 ys).toArray 5 (0, 0)))
    (hown : w0.ownsRow 0 5 1 u n xs) (hn : n + 4 ≤ maxLen) (hn2 : (n + 4) * 1 ≤ 140737488355328)
    (h : ∀ v' w', w'.ownsRow 0 5 1 v' (n + k) (xs ++ vals .u8 ys) → w0.grownBy w' u.ownBlock → (v'.ownBlock = u.ownBlock ∨ v'.ownBlock = some w0.heap.size) → K (a.put o.dst v') w') :
    if Region.wanted o (yielded ops a.tmps) = true then Oper.wp Tryd.prog o a w0 K Q else E := by
  obtain ⟨i0, hi, hz0, hz1, hz2⟩ := info_parts info_u8
  exact step_append_any _ hgd (.tmp tS) (.tmp tX) 35 ho 0 5 i0 (.int .u8 0) 1 1 Tryd.underlying35 hi hz0 hz1 hz2 rfl (by decide) u n xs hs hown w0.heap.size (some ⟨gx, 0, none⟩) k k (vals .u8 ys) hx ⟨by rw [hk]; unfold vals; simp, fun _ => ⟨_, rfl, (Array.getElem?_eq_some_iff.1 hcell).1, World.news_of_block (cs := (vals .u8 ys).toArray) (t := 5) (fr := (0, 0)) hcell⟩⟩
    (fun v hv => vals_one' v ys hv) (by omega) (by omega) (Nat.zero_le _) h

set_option maxRecDepth 100000 in
set_option maxHeartbeats 1500000 in
theorem digits_1a (w : World) (S : Nat → Prop) (g : Nat) (s : St) (c : Nat) (hs : StAt w S g s) (hd : 0 ≤ digZ c) (h0 : 0 ≤ s.number) (h1 : s.number ≤ 4095) (hleft : s.left = 1) (hh : s.high = 0) (hv : 16 * s.number + digZ c < 55296) (n : Nat) (hn : 16 * s.number + digZ c = n) (hl : s.text.length ≤ 140737488355000) :
    Calls Tryd.prog 89 #[.pointer (some ⟨g, 3, none⟩), .int .u8 c] w (StPost w S g { s with number := 16 * s.number + digZ c, left := 0, mode := 1, text := s.text ++ encN n } true) := by
  have HD := Lib.hid (digit_any c w)
  have hr := (digZ_range c).2
  obtain ⟨m, hm⟩ : ∃ m, m = 16 * s.number + digZ c := ⟨_, rfl⟩
  rw [← hm]
  obtain ⟨v, hb, ho, rfl⟩ := hs
  have HN := Lib.hid (StAt.ne hb ho)
  have HB := Lib.hid hb
  have HO := Lib.hid ho
  have c1 := hb.cell 4
  have c2 := hb.cell 5
  have f1 := hb.frozen 4
  have f2 := hb.frozen 5
  unfold stCells at c1 c2
  rw [hleft] at c1
  have z1 : (s.high == 0) = true := by rw [beq_iff_eq]; exact hh
  have z2 : s.high ≤ 0 := by omega
  have z3 : ¬ (0 < s.high) := by omega
  rw [← hm] at hv hn
  have z5 : m < 55296 := hv
  have HENC : Hid (∀ wx, Calls Tryd.prog 97 #[.int .i64 m] wx (EncPost wx n)) := Lib.hid (fun wx => by rw [hn]; exact encode_any n (by omega) wx)
  have HL := Lib.hid hl
  clear hn hl
  have E1 := Lib.hid (IntWalk.i64_in (16 * s.number) (by omega))
  have E2 : Hid (IntKind.i64.wrap (16 * s.number + digZ c) = m) := Lib.hid (by rw [hm]; exact IntWalk.i64_in _ (by omega))
  clear hb ho hm h0 h1 hr hleft hh hv
  have e1 := E1.out
  have e2 := E2.out
  generalize digZ c = d at *
  go_enter Tryd.func89, Tryd.ntmps89
  go_wp2_with fail
  refine HD.out.mono ?_
  rintro e w' ⟨rfl, rfl⟩
  go_upto_region 6 with fail
  have HB1 := Lib.hid (stSet1 (stSet2 (HB.out) m) 0)
  have HO1 := Lib.hid (own_far' (own_far' (HO.out) HN.out 5 (.int .i64 m)) HN.out 4 (.int .i64 0))
  have HBW : Hid (Keeps (SO g v) w ((w.setCell ⟨g, 5, none⟩ (.int .i64 m)).setCell ⟨g, 4, none⟩ (.int .i64 0))) := Lib.hid (((Keeps.refl _ _).setCell (p := ⟨g, 5, none⟩) (.inl (.inl rfl)) _).setCell (p := ⟨g, 4, none⟩) (.inl (.inl rfl)) _)
  have HSZ : Hid (((w.setCell ⟨g, 5, none⟩ (.int .i64 m)).setCell ⟨g, 4, none⟩ (.int .i64 0)).heap.size = w.heap.size) := Lib.hid (by simp)
  clear c1 c2 f1 f2
  generalize (w.setCell ⟨g, 5, none⟩ (.int .i64 m)).setCell ⟨g, 4, none⟩ (.int .i64 0) = w1 at *
  have d0 := HB1.out.cell 3
  have d1 := HB1.out.cell 4
  have d2 := HB1.out.cell 5
  have d3 := HB1.out.cell 6
  have g0 := HB1.out.frozen 3
  have g3 := HB1.out.frozen 6
  unfold stCells at d0 d1 d2 d3
  have d6 := HB1.out.cell 9
  have g6 := HB1.out.frozen 9
  unfold stCells at d6
  go_upto_region 12 with fail
  have HB2 := Lib.hid (stSet0 HB1.out 1)
  have HO2 := Lib.hid (own_far' HO1.out HN.out 3 (.int .i64 1))
  have HBW2 := Lib.hid (HBW.out.setCell (p := ⟨g, 3, none⟩) (.inl (.inl rfl)) (.int .i64 1))
  have HSZ2 : Hid ((w1.setCell ⟨g, 3, none⟩ (.int .i64 1)).heap.size = w.heap.size) := Lib.hid (by have := HSZ.out; simp; omega)
  clear d0 d1 d2 d3 d6 g0 g3 g6
  generalize w1.setCell ⟨g, 3, none⟩ (.int .i64 1) = w2 at *
  have d2 := HB2.out.cell 5
  have d6 := HB2.out.cell 9
  have g6 := HB2.out.frozen 9
  unfold stCells at d2 d6
  have hgl : g < w2.heap.size := World.block_lt_of_cell? w2 _ d6
  have HEL := Lib.hid (encN_len n)
  have hmax : s.text.length + 4 ≤ maxLen := by unfold maxLen; have := HL.out; omega
  have hbytes : (s.text.length + 4) * 1 ≤ 140737488355328 := by have := HL.out; omega
  go_region_law (first
    | ((go_simp; refine (HENC.out _).mono ?_; rintro e w3 ⟨gx, k, rfl, hk, hcell, hbel⟩; have HK := Lib.hid hk; have HCELL := Lib.hid hcell; have HBEL := Lib.hid hbel; have HO3 := Lib.hid (own_below (w := w2.drew) HO2.out hbel); have HBW3 : Hid (Keeps (SO g v) w w3) := Lib.hid (Keeps.below0 (HBW2.out.drewN 1) hbel); have HNE3 := Lib.hid (StAt.ne HB2.out HO2.out); have HB3 := Lib.hid ((HB2.out.drew).below hbel hgl); have r6 : w3.cell? ⟨g, 9, none⟩ = some v := (hbel.cell (p := ⟨g, 9, none⟩) hgl).trans d6; clear hk hcell hbel))
    | ((refine appE 99 104 _ s.text.length _ _ _ _ (encN n) (by rfl) (by rfl) (by rfl) (by rfl) HK.out (by rw [HK.out]; exact HEL.out.2) HCELL.out HO3.out hmax hbytes ?_; intro v4 w4 hown4 hgrow hor; obtain ⟨A2, k2, rfl, -, -, -, -⟩ := own_rd hown4; have HB4 := Lib.hid (HB3.out.grown hgrow (fun k => HN.out k.symm)); have HO4 : Hid (w4.ownsRow 0 5 1 (.slice A2 (s.text.length + k) k2) (s.text ++ encN n).length (vals .u8 (s.text ++ encN n))) := Lib.hid (by rw [List.length_append, vals_append, ← HK.out]; exact hown4); have HBW4 := Lib.hid (HBW3.out.grown hgrow (fun k h => .inl (.inr h))); have HFR := Lib.hid (fr_of (g := g) (a := w) hor HBW3.out.size); have HS4 : Hid (w.heap.size ≤ w4.heap.size) := Lib.hid (by have h1 := hgrow.size; have h2 := HBEL.out.size; have h3 := HSZ2.out; simp at h2; omega); have x6 := HB4.out.cell 9; unfold stCells at x6; have y6 := HB4.out.frozen 9; clear hown4 hgrow hor)))
  all_goals
    go_wp2_with fail
    go_ret
    exact stNew (stText (stSet6 HB4.out _) (s.text ++ encN n)) (own_far' HO4.out (StAt.ne HB4.out HO4.out) 9 _) (HBW4.out.setCell (p := ⟨g, 9, none⟩) (.inl (.inl rfl)) _) HFR.out

set_option maxRecDepth 100000 in
set_option maxHeartbeats 1500000 in
theorem digits_1b (w : World) (S : Nat → Prop) (g : Nat) (s : St) (c : Nat) (hs : StAt w S g s) (hd : 0 ≤ digZ c) (h0 : 0 ≤ s.number) (h1 : s.number ≤ 4095) (hleft : s.left = 1) (hh : s.high = 0) (hv : 56319 < 16 * s.number + digZ c) (n : Nat) (hn : 16 * s.number + digZ c = n) (hl : s.text.length ≤ 140737488355000) :
    Calls Tryd.prog 89 #[.pointer (some ⟨g, 3, none⟩), .int .u8 c] w (StPost w S g { s with number := 16 * s.number + digZ c, left := 0, mode := 1, text := s.text ++ encN n } true) := by
  have HD := Lib.hid (digit_any c w)
  have hr := (digZ_range c).2
  obtain ⟨m, hm⟩ : ∃ m, m = 16 * s.number + digZ c := ⟨_, rfl⟩
  rw [← hm]
  obtain ⟨v, hb, ho, rfl⟩ := hs
  have HN := Lib.hid (StAt.ne hb ho)
  have HB := Lib.hid hb
  have HO := Lib.hid ho
  have c1 := hb.cell 4
  have c2 := hb.cell 5
  have f1 := hb.frozen 4
  have f2 := hb.frozen 5
  unfold stCells at c1 c2
  rw [hleft] at c1
  have z1 : (s.high == 0) = true := by rw [beq_iff_eq]; exact hh
  have z2 : s.high ≤ 0 := by omega
  have z3 : ¬ (0 < s.high) := by omega
  rw [← hm] at hv hn
  have z5 : 56319 < m := hv
  have z6 : 55296 ≤ m := by omega
  have z7 : ¬ (m ≤ 56319) := by omega
  have HENC : Hid (∀ wx, Calls Tryd.prog 97 #[.int .i64 m] wx (EncPost wx n)) := Lib.hid (fun wx => by rw [hn]; exact encode_any n (by omega) wx)
  have HL := Lib.hid hl
  clear hn hl
  have E1 := Lib.hid (IntWalk.i64_in (16 * s.number) (by omega))
  have E2 : Hid (IntKind.i64.wrap (16 * s.number + digZ c) = m) := Lib.hid (by rw [hm]; exact IntWalk.i64_in _ (by omega))
  clear hb ho hm h0 h1 hr hleft hh hv
  have e1 := E1.out
  have e2 := E2.out
  generalize digZ c = d at *
  go_enter Tryd.func89, Tryd.ntmps89
  go_wp2_with fail
  refine HD.out.mono ?_
  rintro e w' ⟨rfl, rfl⟩
  go_upto_region 6 with fail
  have HB1 := Lib.hid (stSet1 (stSet2 (HB.out) m) 0)
  have HO1 := Lib.hid (own_far' (own_far' (HO.out) HN.out 5 (.int .i64 m)) HN.out 4 (.int .i64 0))
  have HBW : Hid (Keeps (SO g v) w ((w.setCell ⟨g, 5, none⟩ (.int .i64 m)).setCell ⟨g, 4, none⟩ (.int .i64 0))) := Lib.hid (((Keeps.refl _ _).setCell (p := ⟨g, 5, none⟩) (.inl (.inl rfl)) _).setCell (p := ⟨g, 4, none⟩) (.inl (.inl rfl)) _)
  have HSZ : Hid (((w.setCell ⟨g, 5, none⟩ (.int .i64 m)).setCell ⟨g, 4, none⟩ (.int .i64 0)).heap.size = w.heap.size) := Lib.hid (by simp)
  clear c1 c2 f1 f2
  generalize (w.setCell ⟨g, 5, none⟩ (.int .i64 m)).setCell ⟨g, 4, none⟩ (.int .i64 0) = w1 at *
  have d0 := HB1.out.cell 3
  have d1 := HB1.out.cell 4
  have d2 := HB1.out.cell 5
  have d3 := HB1.out.cell 6
  have g0 := HB1.out.frozen 3
  have g3 := HB1.out.frozen 6
  unfold stCells at d0 d1 d2 d3
  have d6 := HB1.out.cell 9
  have g6 := HB1.out.frozen 9
  unfold stCells at d6
  go_upto_region 12 with fail
  have HB2 := Lib.hid (stSet0 HB1.out 1)
  have HO2 := Lib.hid (own_far' HO1.out HN.out 3 (.int .i64 1))
  have HBW2 := Lib.hid (HBW.out.setCell (p := ⟨g, 3, none⟩) (.inl (.inl rfl)) (.int .i64 1))
  have HSZ2 : Hid ((w1.setCell ⟨g, 3, none⟩ (.int .i64 1)).heap.size = w.heap.size) := Lib.hid (by have := HSZ.out; simp; omega)
  clear d0 d1 d2 d3 d6 g0 g3 g6
  generalize w1.setCell ⟨g, 3, none⟩ (.int .i64 1) = w2 at *
  have d2 := HB2.out.cell 5
  have d6 := HB2.out.cell 9
  have g6 := HB2.out.frozen 9
  unfold stCells at d2 d6
  have hgl : g < w2.heap.size := World.block_lt_of_cell? w2 _ d6
  have HEL := Lib.hid (encN_len n)
  have hmax : s.text.length + 4 ≤ maxLen := by unfold maxLen; have := HL.out; omega
  have hbytes : (s.text.length + 4) * 1 ≤ 140737488355328 := by have := HL.out; omega
  go_region_law (first
    | ((go_simp; refine (HENC.out _).mono ?_; rintro e w3 ⟨gx, k, rfl, hk, hcell, hbel⟩; have HK := Lib.hid hk; have HCELL := Lib.hid hcell; have HBEL := Lib.hid hbel; have HO3 := Lib.hid (own_below (w := w2.drew) HO2.out hbel); have HBW3 : Hid (Keeps (SO g v) w w3) := Lib.hid (Keeps.below0 (HBW2.out.drewN 1) hbel); have HNE3 := Lib.hid (StAt.ne HB2.out HO2.out); have HB3 := Lib.hid ((HB2.out.drew).below hbel hgl); have r6 : w3.cell? ⟨g, 9, none⟩ = some v := (hbel.cell (p := ⟨g, 9, none⟩) hgl).trans d6; clear hk hcell hbel))
    | ((refine appE 99 104 _ s.text.length _ _ _ _ (encN n) (by rfl) (by rfl) (by rfl) (by rfl) HK.out (by rw [HK.out]; exact HEL.out.2) HCELL.out HO3.out hmax hbytes ?_; intro v4 w4 hown4 hgrow hor; obtain ⟨A2, k2, rfl, -, -, -, -⟩ := own_rd hown4; have HB4 := Lib.hid (HB3.out.grown hgrow (fun k => HN.out k.symm)); have HO4 : Hid (w4.ownsRow 0 5 1 (.slice A2 (s.text.length + k) k2) (s.text ++ encN n).length (vals .u8 (s.text ++ encN n))) := Lib.hid (by rw [List.length_append, vals_append, ← HK.out]; exact hown4); have HBW4 := Lib.hid (HBW3.out.grown hgrow (fun k h => .inl (.inr h))); have HFR := Lib.hid (fr_of (g := g) (a := w) hor HBW3.out.size); have HS4 : Hid (w.heap.size ≤ w4.heap.size) := Lib.hid (by have h1 := hgrow.size; have h2 := HBEL.out.size; have h3 := HSZ2.out; simp at h2; omega); have x6 := HB4.out.cell 9; unfold stCells at x6; have y6 := HB4.out.frozen 9; clear hown4 hgrow hor)))
  all_goals
    go_wp2_with fail
    go_ret
    exact stNew (stText (stSet6 HB4.out _) (s.text ++ encN n)) (own_far' HO4.out (StAt.ne HB4.out HO4.out) 9 _) (HBW4.out.setCell (p := ⟨g, 9, none⟩) (.inl (.inl rfl)) _) HFR.out

set_option maxRecDepth 100000 in
set_option maxHeartbeats 1500000 in
theorem digits_1p (w : World) (S : Nat → Prop) (g : Nat) (s : St) (c : Nat) (hs : StAt w S g s) (hd : 0 ≤ digZ c) (h0 : 0 ≤ s.number) (h1 : s.number ≤ 4095) (hleft : s.left = 1) (hh : 55296 ≤ s.high ∧ s.high ≤ 56319) (hv : 56320 ≤ 16 * s.number + digZ c ∧ 16 * s.number + digZ c ≤ 57343) (n : Nat) (hn : 65536 + (s.high - 55296) * 1024 + (16 * s.number + digZ c) - 56320 = n) (hl : s.text.length ≤ 140737488355000) :
    Calls Tryd.prog 89 #[.pointer (some ⟨g, 3, none⟩), .int .u8 c] w (StPost w S g { s with number := 16 * s.number + digZ c, left := 0, mode := 1, high := 0, text := s.text ++ encN n } true) := by
  have HD := Lib.hid (digit_any c w)
  have hr := (digZ_range c).2
  obtain ⟨m, hm⟩ : ∃ m, m = 16 * s.number + digZ c := ⟨_, rfl⟩
  rw [← hm]
  obtain ⟨v, hb, ho, rfl⟩ := hs
  have HN := Lib.hid (StAt.ne hb ho)
  have HB := Lib.hid hb
  have HO := Lib.hid ho
  have c1 := hb.cell 4
  have c2 := hb.cell 5
  have f1 := hb.frozen 4
  have f2 := hb.frozen 5
  unfold stCells at c1 c2
  rw [hleft] at c1
  have z1 : (s.high == 0) = false := by rw [beq_eq_false_iff_ne]; omega
  have z2 : 0 < s.high := by omega
  rw [← hm] at hv hn
  have q1 := hh.1
  have q2 := hh.2
  have q3 := hv.1
  have q4 := hv.2
  have W0 := Lib.hid (IntWalk.i64_in (s.high - 55296) (by omega))
  have v0 := W0.out
  have W1 := Lib.hid (IntWalk.i64_in ((s.high - 55296) * 1024) (by omega))
  have v1 := W1.out
  have W2 := Lib.hid (IntWalk.i64_in (65536 + (s.high - 55296) * 1024) (by omega))
  have v2 := W2.out
  have W3 := Lib.hid (IntWalk.i64_in (65536 + (s.high - 55296) * 1024 + m) (by omega))
  have v3 := W3.out
  have W4 := Lib.hid (IntWalk.i64_in (65536 + (s.high - 55296) * 1024 + m - 56320) (by omega))
  have v4 := W4.out
  have HENC : Hid (∀ wx, Calls Tryd.prog 97 #[.int .i64 (65536 + (s.high - 55296) * 1024 + m - 56320)] wx (EncPost wx n)) := Lib.hid (fun wx => by rw [hn]; exact encode_any n (by omega) wx)
  have HL := Lib.hid hl
  clear hn hl
  clear q1 q2 q3 q4
  have E1 := Lib.hid (IntWalk.i64_in (16 * s.number) (by omega))
  have E2 : Hid (IntKind.i64.wrap (16 * s.number + digZ c) = m) := Lib.hid (by rw [hm]; exact IntWalk.i64_in _ (by omega))
  clear hb ho hm h0 h1 hr hleft hh hv
  have e1 := E1.out
  have e2 := E2.out
  generalize digZ c = d at *
  go_enter Tryd.func89, Tryd.ntmps89
  go_wp2_with fail
  refine HD.out.mono ?_
  rintro e w' ⟨rfl, rfl⟩
  go_upto_region 6 with fail
  have HB1 := Lib.hid (stSet1 (stSet2 (HB.out) m) 0)
  have HO1 := Lib.hid (own_far' (own_far' (HO.out) HN.out 5 (.int .i64 m)) HN.out 4 (.int .i64 0))
  have HBW : Hid (Keeps (SO g v) w ((w.setCell ⟨g, 5, none⟩ (.int .i64 m)).setCell ⟨g, 4, none⟩ (.int .i64 0))) := Lib.hid (((Keeps.refl _ _).setCell (p := ⟨g, 5, none⟩) (.inl (.inl rfl)) _).setCell (p := ⟨g, 4, none⟩) (.inl (.inl rfl)) _)
  have HSZ : Hid (((w.setCell ⟨g, 5, none⟩ (.int .i64 m)).setCell ⟨g, 4, none⟩ (.int .i64 0)).heap.size = w.heap.size) := Lib.hid (by simp)
  clear c1 c2 f1 f2
  generalize (w.setCell ⟨g, 5, none⟩ (.int .i64 m)).setCell ⟨g, 4, none⟩ (.int .i64 0) = w1 at *
  have d0 := HB1.out.cell 3
  have d1 := HB1.out.cell 4
  have d2 := HB1.out.cell 5
  have d3 := HB1.out.cell 6
  have g0 := HB1.out.frozen 3
  have g3 := HB1.out.frozen 6
  unfold stCells at d0 d1 d2 d3
  have d6 := HB1.out.cell 9
  have g6 := HB1.out.frozen 9
  unfold stCells at d6
  go_upto_region 14 with fail
  have HB2 := Lib.hid (stSet0 HB1.out 1)
  have HO2 := Lib.hid (own_far' HO1.out HN.out 3 (.int .i64 1))
  have HBW2 := Lib.hid (HBW.out.setCell (p := ⟨g, 3, none⟩) (.inl (.inl rfl)) (.int .i64 1))
  have HSZ2 : Hid ((w1.setCell ⟨g, 3, none⟩ (.int .i64 1)).heap.size = w.heap.size) := Lib.hid (by have := HSZ.out; simp; omega)
  clear d0 d1 d2 d3 d6 g0 g3 g6
  generalize w1.setCell ⟨g, 3, none⟩ (.int .i64 1) = w2 at *
  have d2 := HB2.out.cell 5
  have d3 := HB2.out.cell 6
  have d6 := HB2.out.cell 9
  have g6 := HB2.out.frozen 9
  unfold stCells at d2 d3 d6
  have hgl : g < w2.heap.size := World.block_lt_of_cell? w2 _ d6
  have HEL := Lib.hid (encN_len n)
  have hmax : s.text.length + 4 ≤ maxLen := by unfold maxLen; have := HL.out; omega
  have hbytes : (s.text.length + 4) * 1 ≤ 140737488355328 := by have := HL.out; omega
  go_region_law (first
    | ((go_simp; refine (HENC.out _).mono ?_; rintro e w3 ⟨gx, k, rfl, hk, hcell, hbel⟩; have HK := Lib.hid hk; have HCELL := Lib.hid hcell; have HBEL := Lib.hid hbel; have HO3 := Lib.hid (own_below (w := w2.drew) HO2.out hbel); have HBW3 : Hid (Keeps (SO g v) w w3) := Lib.hid (Keeps.below0 (HBW2.out.drewN 1) hbel); have HNE3 := Lib.hid (StAt.ne HB2.out HO2.out); have HB3 := Lib.hid ((HB2.out.drew).below hbel hgl); have r6 : w3.cell? ⟨g, 9, none⟩ = some v := (hbel.cell (p := ⟨g, 9, none⟩) hgl).trans d6; clear hk hcell hbel))
    | ((refine appE 118 132 _ s.text.length _ _ _ _ (encN n) (by rfl) (by rfl) (by rfl) (by rfl) HK.out (by rw [HK.out]; exact HEL.out.2) HCELL.out HO3.out hmax hbytes ?_; intro v4 w4 hown4 hgrow hor; obtain ⟨A2, k2, rfl, -, -, -, -⟩ := own_rd hown4; have HB4 := Lib.hid (HB3.out.grown hgrow (fun k => HN.out k.symm)); have HO4 : Hid (w4.ownsRow 0 5 1 (.slice A2 (s.text.length + k) k2) (s.text ++ encN n).length (vals .u8 (s.text ++ encN n))) := Lib.hid (by rw [List.length_append, vals_append, ← HK.out]; exact hown4); have HBW4 := Lib.hid (HBW3.out.grown hgrow (fun k h => .inl (.inr h))); have HFR := Lib.hid (fr_of (g := g) (a := w) hor HBW3.out.size); have HS4 : Hid (w.heap.size ≤ w4.heap.size) := Lib.hid (by have h1 := hgrow.size; have h2 := HBEL.out.size; have h3 := HSZ2.out; simp at h2; omega); have x6 := HB4.out.cell 9; unfold stCells at x6; have y6 := HB4.out.frozen 9; clear hown4 hgrow hor)))
  all_goals
    have HB5 := Lib.hid (stText (stSet6 HB4.out (.slice A2 (s.text.length + k) k2)) (s.text ++ encN n))
    have HO5 := Lib.hid (own_far' HO4.out (StAt.ne HB4.out HO4.out) 9 (.slice A2 (s.text.length + k) k2))
    have x3 := HB5.out.cell 6
    have y3 := HB5.out.frozen 6
    unfold stCells at x3
    go_wp2_with fail
    go_ret
    exact stNew (stSet3 HB5.out 0) (own_far' HO5.out (StAt.ne HB5.out HO5.out) 6 _) ((HBW4.out.setCell (p := ⟨g, 9, none⟩) (.inl (.inl rfl)) _).setCell (p := ⟨g, 6, none⟩) (.inl (.inl rfl)) _) HFR.out
end Go.Proofs.YtjfeebbhkolmoaaDoor.R
