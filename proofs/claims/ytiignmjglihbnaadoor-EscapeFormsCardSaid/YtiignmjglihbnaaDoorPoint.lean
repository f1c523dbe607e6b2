/- Contract of escape.point. -/
import Derived.Test.YtiignmjglihbnaaDoorWithin
import Derived.Test.YtiignmjglihbnaaDoorBad
namespace Go.Proofs.YtiignmjglihbnaaDoor
open Go.RowKit
set_option linter.unusedVariables false

/-- so many bytes more are due at a place, the next within these ends -/
def contN (b : Nat → Nat) (sz : Nat) : Nat → Nat → Nat → Nat → Nat × Bool
  | 0, i, _, _ => (i, true)
  | l + 1, i, lo, hi => if i < sz ∧ lo ≤ b i ∧ b i ≤ hi then contN b sz l (i + 1) 128 191 else (i, false)
def pointN (b : Nat → Nat) (sz : Nat) : Nat × Bool := if b 0 < 194 ∨ 244 < b 0 then (0, false) else contN b sz (moreB (b 0)) 1 (loB (b 0)) (hiB (b 0))
def PointPost (w : World) (r : Nat × Bool) (e : Ending) (w' : World) : Prop := e = .returned (.tuple #[.int .i64 r.1, .bool r.2]) ∧ Below w.heap.size w w'
def PLRel (w : World) (s : ByteArray) (n : Nat) (R : Nat × Bool) (v6 v7 v8 : Value) (wr : World) : Prop :=
  ∃ i l lo hi : Nat, v6 = .int .u8 lo ∧ v7 = .int .u8 hi ∧ v8 = .int .i64 i ∧ i + l = n ∧ i ≤ s.size ∧ contN (bt s) s.size l i lo hi = R ∧ Below w.heap.size w wr

set_option maxRecDepth 100000 in
theorem point_none (s : ByteArray) (c : Nat) (hs : 0 < s.size) (hc : s[0].toNat = c) (h : c < 194 ∨ 244 < c) (w : World) :
    Calls Tryd.prog 27 #[.string s] w (PointPost w (0, false)) := by
  have HWI := Lib.hid (fun wx g hb => within_any c 194 244 g wx hb)
  rw [show decide (194 ≤ c ∧ c ≤ 244) = false from decide_eq_false (by omega)] at HWI
  clear h
  go_enter Tryd.func27, Tryd.ntmps27
  go_wp2_with fail
  refine (HWI.out _ w.heap.size (Blk.new _ _ _)).mono ?_
  rintro e w' ⟨rfl, rfl⟩
  go_wp2_with fail
  go_ret2
  exact ⟨rfl, (Below.refl _ _).alloc (Nat.le_refl _) _⟩

set_option maxRecDepth 100000 in
set_option maxHeartbeats 1500000 in
theorem point_a (s : ByteArray) (c : Nat) (hs : 0 < s.size) (hc : s[0].toNat = c) (h : 194 ≤ c) (h' : c < 224) (hsz : s.size ≤ 140737488351232) (R : Nat × Bool) (hR : contN (bt s) s.size 1 1 128 191 = R) (w : World) :
    Calls Tryd.prog 27 #[.string s] w (PointPost w R) := by
  have HWI := Lib.hid (fun wx g hb => within_any c 194 244 g wx hb)
  rw [show decide (194 ≤ c ∧ c ≤ 244) = true from decide_eq_true (by omega)] at HWI
  have HR := Lib.hid hR
  have p1 : ¬ (224 ≤ (c : Int)) := by omega
  have p2 : ¬ (240 ≤ (c : Int)) := by omega
  have n224 : ((c : Int) == 224) = false := by rw [beq_eq_false_iff_ne]; omega
  have n237 : ((c : Int) == 237) = false := by rw [beq_eq_false_iff_ne]; omega
  have n240 : ((c : Int) == 240) = false := by rw [beq_eq_false_iff_ne]; omega
  have n244 : ((c : Int) == 244) = false := by rw [beq_eq_false_iff_ne]; omega
  clear hR h h'
  go_enter Tryd.func27, Tryd.ntmps27
  go_wp2_with fail
  refine (HWI.out _ w.heap.size (Blk.new _ _ _)).mono ?_
  rintro e w' ⟨rfl, rfl⟩
  go_wp2_with fail
  go_loopw [2, 3, 6, 7, 8] (fun _ _ v6 v7 v8 wr => PLRel w s 2 R v6 v7 v8 wr) (fun _ _ _ _ v8 _ => 2 - (intOf v8).toNat)
  case atStart => exact ⟨1, 1, 128, 191, rfl, rfl, rfl, rfl, hs, HR.out, (Below.refl _ _).alloc (Nat.le_refl _) _⟩
  case round =>
    obtain ⟨i, l, lo, hi, rfl, rfl, rfl, hil, his, hrun, hbel⟩ := hrel
    have HB := Lib.hid hbel
    have HRUN := Lib.hid hrun
    clear hrun hbel
    match l with
    | 0 =>
      obtain rfl : i = 2 := by omega
      have HQ : Hid ((2, true) = R) := Lib.hid (by rw [← HRUN.out]; rfl)
      clear HRUN
      go_wp2_with fail
      go_ret2
      exact ⟨by rw [← HQ.out] <;> rfl, HB.out⟩
    | l + 1 =>
      have hin : (i : Int) < 2 := by omega
      have hrun := HRUN.out
      rw [contN] at hrun
      by_cases hlt : i < s.size
      · have HBT := Lib.hid (bt_in hlt)
        rw [HBT.out] at hrun
        have q0 : ((i : Int) == (s.size : Int)) = false := by rw [beq_eq_false_iff_ne]; omega
        have i0 : 0 ≤ (i : Int) := by omega
        have HW2 := Lib.hid (fun wx g hb => within_any (s[i].toNat) lo hi g wx hb)
        generalize hcc : s[i].toNat = d at *
        by_cases hwi : lo ≤ d ∧ d ≤ hi
        · rw [if_pos ⟨hlt, hwi⟩] at hrun
          rw [decide_eq_true hwi] at HW2
          have HQ := Lib.hid hrun
          have e1 := Lib.hid (IntWalk.i64_in ((i : Int) + 1) (by omega))
          have e1 := e1.out
          clear hrun HRUN hwi
          go_wp2_with fail
          refine (HW2.out _ wr.heap.size (Blk.new _ _ _)).mono ?_
          rintro e w' ⟨rfl, rfl⟩
          go_wp2_with fail
          go_roundw
          case rel => exact ⟨i + 1, l, 128, 191, rfl, rfl, by go_num, by omega, by omega, HQ.out, HB.out.alloc (HB.out.size) _⟩
          case measure => simp [intOf]; omega
        · rw [if_neg (fun k => hwi k.2)] at hrun
          rw [decide_eq_false hwi] at HW2
          have HQ := Lib.hid hrun
          clear hrun HRUN hwi
          go_wp2_with fail
          refine (HW2.out _ wr.heap.size (Blk.new _ _ _)).mono ?_
          rintro e w' ⟨rfl, rfl⟩
          go_wp2_with fail
          go_ret2
          exact ⟨by rw [← HQ.out] <;> rfl, HB.out.alloc (HB.out.size) _⟩
      · rw [if_neg (fun k => hlt k.1)] at hrun
        obtain rfl : i = s.size := by omega
        have HQ := Lib.hid hrun
        clear hrun HRUN
        go_wp2_with fail
        go_ret2
        exact ⟨by rw [← HQ.out] <;> rfl, HB.out⟩

set_option maxRecDepth 100000 in
set_option maxHeartbeats 1500000 in
theorem point_b (s : ByteArray) (hs : 0 < s.size) (hc : s[0].toNat = 224) (hsz : s.size ≤ 140737488351232) (R : Nat × Bool) (hR : contN (bt s) s.size 2 1 160 191 = R) (w : World) :
    Calls Tryd.prog 27 #[.string s] w (PointPost w R) := by
  have HWI := Lib.hid (fun wx g hb => within_any 224 194 244 g wx hb)
  rw [show decide (194 ≤ 224 ∧ 224 ≤ 244) = true from decide_eq_true (by omega)] at HWI
  have HR := Lib.hid hR
  clear hR
  go_enter Tryd.func27, Tryd.ntmps27
  go_wp2_with fail
  refine (HWI.out _ w.heap.size (Blk.new _ _ _)).mono ?_
  rintro e w' ⟨rfl, rfl⟩
  go_wp2_with fail
  go_loopw [2, 3, 6, 7, 8] (fun _ _ v6 v7 v8 wr => PLRel w s 3 R v6 v7 v8 wr) (fun _ _ _ _ v8 _ => 3 - (intOf v8).toNat)
  case atStart => exact ⟨1, 2, 160, 191, rfl, rfl, rfl, rfl, hs, HR.out, (Below.refl _ _).alloc (Nat.le_refl _) _⟩
  case round =>
    obtain ⟨i, l, lo, hi, rfl, rfl, rfl, hil, his, hrun, hbel⟩ := hrel
    have HB := Lib.hid hbel
    have HRUN := Lib.hid hrun
    clear hrun hbel
    match l with
    | 0 =>
      obtain rfl : i = 3 := by omega
      have HQ : Hid ((3, true) = R) := Lib.hid (by rw [← HRUN.out]; rfl)
      clear HRUN
      go_wp2_with fail
      go_ret2
      exact ⟨by rw [← HQ.out] <;> rfl, HB.out⟩
    | l + 1 =>
      have hin : (i : Int) < 3 := by omega
      have hrun := HRUN.out
      rw [contN] at hrun
      by_cases hlt : i < s.size
      · have HBT := Lib.hid (bt_in hlt)
        rw [HBT.out] at hrun
        have q0 : ((i : Int) == (s.size : Int)) = false := by rw [beq_eq_false_iff_ne]; omega
        have i0 : 0 ≤ (i : Int) := by omega
        have HW2 := Lib.hid (fun wx g hb => within_any (s[i].toNat) lo hi g wx hb)
        generalize hcc : s[i].toNat = d at *
        by_cases hwi : lo ≤ d ∧ d ≤ hi
        · rw [if_pos ⟨hlt, hwi⟩] at hrun
          rw [decide_eq_true hwi] at HW2
          have HQ := Lib.hid hrun
          have e1 := Lib.hid (IntWalk.i64_in ((i : Int) + 1) (by omega))
          have e1 := e1.out
          clear hrun HRUN hwi
          go_wp2_with fail
          refine (HW2.out _ wr.heap.size (Blk.new _ _ _)).mono ?_
          rintro e w' ⟨rfl, rfl⟩
          go_wp2_with fail
          go_roundw
          case rel => exact ⟨i + 1, l, 128, 191, rfl, rfl, by go_num, by omega, by omega, HQ.out, HB.out.alloc (HB.out.size) _⟩
          case measure => simp [intOf]; omega
        · rw [if_neg (fun k => hwi k.2)] at hrun
          rw [decide_eq_false hwi] at HW2
          have HQ := Lib.hid hrun
          clear hrun HRUN hwi
          go_wp2_with fail
          refine (HW2.out _ wr.heap.size (Blk.new _ _ _)).mono ?_
          rintro e w' ⟨rfl, rfl⟩
          go_wp2_with fail
          go_ret2
          exact ⟨by rw [← HQ.out] <;> rfl, HB.out.alloc (HB.out.size) _⟩
      · rw [if_neg (fun k => hlt k.1)] at hrun
        obtain rfl : i = s.size := by omega
        have HQ := Lib.hid hrun
        clear hrun HRUN
        go_wp2_with fail
        go_ret2
        exact ⟨by rw [← HQ.out] <;> rfl, HB.out⟩

set_option maxRecDepth 100000 in
set_option maxHeartbeats 1500000 in
theorem point_c (s : ByteArray) (c : Nat) (hs : 0 < s.size) (hc : s[0].toNat = c) (h : 224 ≤ c) (h' : c < 240) (h1 : c ≠ 224) (h2 : c ≠ 237) (hsz : s.size ≤ 140737488351232) (R : Nat × Bool) (hR : contN (bt s) s.size 2 1 128 191 = R) (w : World) :
    Calls Tryd.prog 27 #[.string s] w (PointPost w R) := by
  have HWI := Lib.hid (fun wx g hb => within_any c 194 244 g wx hb)
  rw [show decide (194 ≤ c ∧ c ≤ 244) = true from decide_eq_true (by omega)] at HWI
  have HR := Lib.hid hR
  have p1 : 224 ≤ (c : Int) := by omega
  have p2 : ¬ (240 ≤ (c : Int)) := by omega
  have n224 : ((c : Int) == 224) = false := by rw [beq_eq_false_iff_ne]; omega
  have n237 : ((c : Int) == 237) = false := by rw [beq_eq_false_iff_ne]; omega
  have n240 : ((c : Int) == 240) = false := by rw [beq_eq_false_iff_ne]; omega
  have n244 : ((c : Int) == 244) = false := by rw [beq_eq_false_iff_ne]; omega
  clear hR h h' h1 h2
  go_enter Tryd.func27, Tryd.ntmps27
  go_wp2_with fail
  refine (HWI.out _ w.heap.size (Blk.new _ _ _)).mono ?_
  rintro e w' ⟨rfl, rfl⟩
  go_wp2_with fail
  go_loopw [2, 3, 6, 7, 8] (fun _ _ v6 v7 v8 wr => PLRel w s 3 R v6 v7 v8 wr) (fun _ _ _ _ v8 _ => 3 - (intOf v8).toNat)
  case atStart => exact ⟨1, 2, 128, 191, rfl, rfl, rfl, rfl, hs, HR.out, (Below.refl _ _).alloc (Nat.le_refl _) _⟩
  case round =>
    obtain ⟨i, l, lo, hi, rfl, rfl, rfl, hil, his, hrun, hbel⟩ := hrel
    have HB := Lib.hid hbel
    have HRUN := Lib.hid hrun
    clear hrun hbel
    match l with
    | 0 =>
      obtain rfl : i = 3 := by omega
      have HQ : Hid ((3, true) = R) := Lib.hid (by rw [← HRUN.out]; rfl)
      clear HRUN
      go_wp2_with fail
      go_ret2
      exact ⟨by rw [← HQ.out] <;> rfl, HB.out⟩
    | l + 1 =>
      have hin : (i : Int) < 3 := by omega
      have hrun := HRUN.out
      rw [contN] at hrun
      by_cases hlt : i < s.size
      · have HBT := Lib.hid (bt_in hlt)
        rw [HBT.out] at hrun
        have q0 : ((i : Int) == (s.size : Int)) = false := by rw [beq_eq_false_iff_ne]; omega
        have i0 : 0 ≤ (i : Int) := by omega
        have HW2 := Lib.hid (fun wx g hb => within_any (s[i].toNat) lo hi g wx hb)
        generalize hcc : s[i].toNat = d at *
        by_cases hwi : lo ≤ d ∧ d ≤ hi
        · rw [if_pos ⟨hlt, hwi⟩] at hrun
          rw [decide_eq_true hwi] at HW2
          have HQ := Lib.hid hrun
          have e1 := Lib.hid (IntWalk.i64_in ((i : Int) + 1) (by omega))
          have e1 := e1.out
          clear hrun HRUN hwi
          go_wp2_with fail
          refine (HW2.out _ wr.heap.size (Blk.new _ _ _)).mono ?_
          rintro e w' ⟨rfl, rfl⟩
          go_wp2_with fail
          go_roundw
          case rel => exact ⟨i + 1, l, 128, 191, rfl, rfl, by go_num, by omega, by omega, HQ.out, HB.out.alloc (HB.out.size) _⟩
          case measure => simp [intOf]; omega
        · rw [if_neg (fun k => hwi k.2)] at hrun
          rw [decide_eq_false hwi] at HW2
          have HQ := Lib.hid hrun
          clear hrun HRUN hwi
          go_wp2_with fail
          refine (HW2.out _ wr.heap.size (Blk.new _ _ _)).mono ?_
          rintro e w' ⟨rfl, rfl⟩
          go_wp2_with fail
          go_ret2
          exact ⟨by rw [← HQ.out] <;> rfl, HB.out.alloc (HB.out.size) _⟩
      · rw [if_neg (fun k => hlt k.1)] at hrun
        obtain rfl : i = s.size := by omega
        have HQ := Lib.hid hrun
        clear hrun HRUN
        go_wp2_with fail
        go_ret2
        exact ⟨by rw [← HQ.out] <;> rfl, HB.out⟩

set_option maxRecDepth 100000 in
set_option maxHeartbeats 1500000 in
theorem point_d (s : ByteArray) (hs : 0 < s.size) (hc : s[0].toNat = 237) (hsz : s.size ≤ 140737488351232) (R : Nat × Bool) (hR : contN (bt s) s.size 2 1 128 159 = R) (w : World) :
    Calls Tryd.prog 27 #[.string s] w (PointPost w R) := by
  have HWI := Lib.hid (fun wx g hb => within_any 237 194 244 g wx hb)
  rw [show decide (194 ≤ 237 ∧ 237 ≤ 244) = true from decide_eq_true (by omega)] at HWI
  have HR := Lib.hid hR
  clear hR
  go_enter Tryd.func27, Tryd.ntmps27
  go_wp2_with fail
  refine (HWI.out _ w.heap.size (Blk.new _ _ _)).mono ?_
  rintro e w' ⟨rfl, rfl⟩
  go_wp2_with fail
  go_loopw [2, 3, 6, 7, 8] (fun _ _ v6 v7 v8 wr => PLRel w s 3 R v6 v7 v8 wr) (fun _ _ _ _ v8 _ => 3 - (intOf v8).toNat)
  case atStart => exact ⟨1, 2, 128, 159, rfl, rfl, rfl, rfl, hs, HR.out, (Below.refl _ _).alloc (Nat.le_refl _) _⟩
  case round =>
    obtain ⟨i, l, lo, hi, rfl, rfl, rfl, hil, his, hrun, hbel⟩ := hrel
    have HB := Lib.hid hbel
    have HRUN := Lib.hid hrun
    clear hrun hbel
    match l with
    | 0 =>
      obtain rfl : i = 3 := by omega
      have HQ : Hid ((3, true) = R) := Lib.hid (by rw [← HRUN.out]; rfl)
      clear HRUN
      go_wp2_with fail
      go_ret2
      exact ⟨by rw [← HQ.out] <;> rfl, HB.out⟩
    | l + 1 =>
      have hin : (i : Int) < 3 := by omega
      have hrun := HRUN.out
      rw [contN] at hrun
      by_cases hlt : i < s.size
      · have HBT := Lib.hid (bt_in hlt)
        rw [HBT.out] at hrun
        have q0 : ((i : Int) == (s.size : Int)) = false := by rw [beq_eq_false_iff_ne]; omega
        have i0 : 0 ≤ (i : Int) := by omega
        have HW2 := Lib.hid (fun wx g hb => within_any (s[i].toNat) lo hi g wx hb)
        generalize hcc : s[i].toNat = d at *
        by_cases hwi : lo ≤ d ∧ d ≤ hi
        · rw [if_pos ⟨hlt, hwi⟩] at hrun
          rw [decide_eq_true hwi] at HW2
          have HQ := Lib.hid hrun
          have e1 := Lib.hid (IntWalk.i64_in ((i : Int) + 1) (by omega))
          have e1 := e1.out
          clear hrun HRUN hwi
          go_wp2_with fail
          refine (HW2.out _ wr.heap.size (Blk.new _ _ _)).mono ?_
          rintro e w' ⟨rfl, rfl⟩
          go_wp2_with fail
          go_roundw
          case rel => exact ⟨i + 1, l, 128, 191, rfl, rfl, by go_num, by omega, by omega, HQ.out, HB.out.alloc (HB.out.size) _⟩
          case measure => simp [intOf]; omega
        · rw [if_neg (fun k => hwi k.2)] at hrun
          rw [decide_eq_false hwi] at HW2
          have HQ := Lib.hid hrun
          clear hrun HRUN hwi
          go_wp2_with fail
          refine (HW2.out _ wr.heap.size (Blk.new _ _ _)).mono ?_
          rintro e w' ⟨rfl, rfl⟩
          go_wp2_with fail
          go_ret2
          exact ⟨by rw [← HQ.out] <;> rfl, HB.out.alloc (HB.out.size) _⟩
      · rw [if_neg (fun k => hlt k.1)] at hrun
        obtain rfl : i = s.size := by omega
        have HQ := Lib.hid hrun
        clear hrun HRUN
        go_wp2_with fail
        go_ret2
        exact ⟨by rw [← HQ.out] <;> rfl, HB.out⟩

set_option maxRecDepth 100000 in
set_option maxHeartbeats 1500000 in
theorem point_e (s : ByteArray) (hs : 0 < s.size) (hc : s[0].toNat = 240) (hsz : s.size ≤ 140737488351232) (R : Nat × Bool) (hR : contN (bt s) s.size 3 1 144 191 = R) (w : World) :
    Calls Tryd.prog 27 #[.string s] w (PointPost w R) := by
  have HWI := Lib.hid (fun wx g hb => within_any 240 194 244 g wx hb)
  rw [show decide (194 ≤ 240 ∧ 240 ≤ 244) = true from decide_eq_true (by omega)] at HWI
  have HR := Lib.hid hR
  clear hR
  go_enter Tryd.func27, Tryd.ntmps27
  go_wp2_with fail
  refine (HWI.out _ w.heap.size (Blk.new _ _ _)).mono ?_
  rintro e w' ⟨rfl, rfl⟩
  go_wp2_with fail
  go_loopw [2, 3, 6, 7, 8] (fun _ _ v6 v7 v8 wr => PLRel w s 4 R v6 v7 v8 wr) (fun _ _ _ _ v8 _ => 4 - (intOf v8).toNat)
  case atStart => exact ⟨1, 3, 144, 191, rfl, rfl, rfl, rfl, hs, HR.out, (Below.refl _ _).alloc (Nat.le_refl _) _⟩
  case round =>
    obtain ⟨i, l, lo, hi, rfl, rfl, rfl, hil, his, hrun, hbel⟩ := hrel
    have HB := Lib.hid hbel
    have HRUN := Lib.hid hrun
    clear hrun hbel
    match l with
    | 0 =>
      obtain rfl : i = 4 := by omega
      have HQ : Hid ((4, true) = R) := Lib.hid (by rw [← HRUN.out]; rfl)
      clear HRUN
      go_wp2_with fail
      go_ret2
      exact ⟨by rw [← HQ.out] <;> rfl, HB.out⟩
    | l + 1 =>
      have hin : (i : Int) < 4 := by omega
      have hrun := HRUN.out
      rw [contN] at hrun
      by_cases hlt : i < s.size
      · have HBT := Lib.hid (bt_in hlt)
        rw [HBT.out] at hrun
        have q0 : ((i : Int) == (s.size : Int)) = false := by rw [beq_eq_false_iff_ne]; omega
        have i0 : 0 ≤ (i : Int) := by omega
        have HW2 := Lib.hid (fun wx g hb => within_any (s[i].toNat) lo hi g wx hb)
        generalize hcc : s[i].toNat = d at *
        by_cases hwi : lo ≤ d ∧ d ≤ hi
        · rw [if_pos ⟨hlt, hwi⟩] at hrun
          rw [decide_eq_true hwi] at HW2
          have HQ := Lib.hid hrun
          have e1 := Lib.hid (IntWalk.i64_in ((i : Int) + 1) (by omega))
          have e1 := e1.out
          clear hrun HRUN hwi
          go_wp2_with fail
          refine (HW2.out _ wr.heap.size (Blk.new _ _ _)).mono ?_
          rintro e w' ⟨rfl, rfl⟩
          go_wp2_with fail
          go_roundw
          case rel => exact ⟨i + 1, l, 128, 191, rfl, rfl, by go_num, by omega, by omega, HQ.out, HB.out.alloc (HB.out.size) _⟩
          case measure => simp [intOf]; omega
        · rw [if_neg (fun k => hwi k.2)] at hrun
          rw [decide_eq_false hwi] at HW2
          have HQ := Lib.hid hrun
          clear hrun HRUN hwi
          go_wp2_with fail
          refine (HW2.out _ wr.heap.size (Blk.new _ _ _)).mono ?_
          rintro e w' ⟨rfl, rfl⟩
          go_wp2_with fail
          go_ret2
          exact ⟨by rw [← HQ.out] <;> rfl, HB.out.alloc (HB.out.size) _⟩
      · rw [if_neg (fun k => hlt k.1)] at hrun
        obtain rfl : i = s.size := by omega
        have HQ := Lib.hid hrun
        clear hrun HRUN
        go_wp2_with fail
        go_ret2
        exact ⟨by rw [← HQ.out] <;> rfl, HB.out⟩

set_option maxRecDepth 100000 in
set_option maxHeartbeats 1500000 in
theorem point_f (s : ByteArray) (c : Nat) (hs : 0 < s.size) (hc : s[0].toNat = c) (h : 240 < c) (h' : c < 244) (hsz : s.size ≤ 140737488351232) (R : Nat × Bool) (hR : contN (bt s) s.size 3 1 128 191 = R) (w : World) :
    Calls Tryd.prog 27 #[.string s] w (PointPost w R) := by
  have HWI := Lib.hid (fun wx g hb => within_any c 194 244 g wx hb)
  rw [show decide (194 ≤ c ∧ c ≤ 244) = true from decide_eq_true (by omega)] at HWI
  have HR := Lib.hid hR
  have p1 : 224 ≤ (c : Int) := by omega
  have p2 : 240 ≤ (c : Int) := by omega
  have n224 : ((c : Int) == 224) = false := by rw [beq_eq_false_iff_ne]; omega
  have n237 : ((c : Int) == 237) = false := by rw [beq_eq_false_iff_ne]; omega
  have n240 : ((c : Int) == 240) = false := by rw [beq_eq_false_iff_ne]; omega
  have n244 : ((c : Int) == 244) = false := by rw [beq_eq_false_iff_ne]; omega
  clear hR h h'
  go_enter Tryd.func27, Tryd.ntmps27
  go_wp2_with fail
  refine (HWI.out _ w.heap.size (Blk.new _ _ _)).mono ?_
  rintro e w' ⟨rfl, rfl⟩
  go_wp2_with fail
  go_loopw [2, 3, 6, 7, 8] (fun _ _ v6 v7 v8 wr => PLRel w s 4 R v6 v7 v8 wr) (fun _ _ _ _ v8 _ => 4 - (intOf v8).toNat)
  case atStart => exact ⟨1, 3, 128, 191, rfl, rfl, rfl, rfl, hs, HR.out, (Below.refl _ _).alloc (Nat.le_refl _) _⟩
  case round =>
    obtain ⟨i, l, lo, hi, rfl, rfl, rfl, hil, his, hrun, hbel⟩ := hrel
    have HB := Lib.hid hbel
    have HRUN := Lib.hid hrun
    clear hrun hbel
    match l with
    | 0 =>
      obtain rfl : i = 4 := by omega
      have HQ : Hid ((4, true) = R) := Lib.hid (by rw [← HRUN.out]; rfl)
      clear HRUN
      go_wp2_with fail
      go_ret2
      exact ⟨by rw [← HQ.out] <;> rfl, HB.out⟩
    | l + 1 =>
      have hin : (i : Int) < 4 := by omega
      have hrun := HRUN.out
      rw [contN] at hrun
      by_cases hlt : i < s.size
      · have HBT := Lib.hid (bt_in hlt)
        rw [HBT.out] at hrun
        have q0 : ((i : Int) == (s.size : Int)) = false := by rw [beq_eq_false_iff_ne]; omega
        have i0 : 0 ≤ (i : Int) := by omega
        have HW2 := Lib.hid (fun wx g hb => within_any (s[i].toNat) lo hi g wx hb)
        generalize hcc : s[i].toNat = d at *
        by_cases hwi : lo ≤ d ∧ d ≤ hi
        · rw [if_pos ⟨hlt, hwi⟩] at hrun
          rw [decide_eq_true hwi] at HW2
          have HQ := Lib.hid hrun
          have e1 := Lib.hid (IntWalk.i64_in ((i : Int) + 1) (by omega))
          have e1 := e1.out
          clear hrun HRUN hwi
          go_wp2_with fail
          refine (HW2.out _ wr.heap.size (Blk.new _ _ _)).mono ?_
          rintro e w' ⟨rfl, rfl⟩
          go_wp2_with fail
          go_roundw
          case rel => exact ⟨i + 1, l, 128, 191, rfl, rfl, by go_num, by omega, by omega, HQ.out, HB.out.alloc (HB.out.size) _⟩
          case measure => simp [intOf]; omega
        · rw [if_neg (fun k => hwi k.2)] at hrun
          rw [decide_eq_false hwi] at HW2
          have HQ := Lib.hid hrun
          clear hrun HRUN hwi
          go_wp2_with fail
          refine (HW2.out _ wr.heap.size (Blk.new _ _ _)).mono ?_
          rintro e w' ⟨rfl, rfl⟩
          go_wp2_with fail
          go_ret2
          exact ⟨by rw [← HQ.out] <;> rfl, HB.out.alloc (HB.out.size) _⟩
      · rw [if_neg (fun k => hlt k.1)] at hrun
        obtain rfl : i = s.size := by omega
        have HQ := Lib.hid hrun
        clear hrun HRUN
        go_wp2_with fail
        go_ret2
        exact ⟨by rw [← HQ.out] <;> rfl, HB.out⟩

set_option maxRecDepth 100000 in
set_option maxHeartbeats 1500000 in
theorem point_g (s : ByteArray) (hs : 0 < s.size) (hc : s[0].toNat = 244) (hsz : s.size ≤ 140737488351232) (R : Nat × Bool) (hR : contN (bt s) s.size 3 1 128 143 = R) (w : World) :
    Calls Tryd.prog 27 #[.string s] w (PointPost w R) := by
  have HWI := Lib.hid (fun wx g hb => within_any 244 194 244 g wx hb)
  rw [show decide (194 ≤ 244 ∧ 244 ≤ 244) = true from decide_eq_true (by omega)] at HWI
  have HR := Lib.hid hR
  clear hR
  go_enter Tryd.func27, Tryd.ntmps27
  go_wp2_with fail
  refine (HWI.out _ w.heap.size (Blk.new _ _ _)).mono ?_
  rintro e w' ⟨rfl, rfl⟩
  go_wp2_with fail
  go_loopw [2, 3, 6, 7, 8] (fun _ _ v6 v7 v8 wr => PLRel w s 4 R v6 v7 v8 wr) (fun _ _ _ _ v8 _ => 4 - (intOf v8).toNat)
  case atStart => exact ⟨1, 3, 128, 143, rfl, rfl, rfl, rfl, hs, HR.out, (Below.refl _ _).alloc (Nat.le_refl _) _⟩
  case round =>
    obtain ⟨i, l, lo, hi, rfl, rfl, rfl, hil, his, hrun, hbel⟩ := hrel
    have HB := Lib.hid hbel
    have HRUN := Lib.hid hrun
    clear hrun hbel
    match l with
    | 0 =>
      obtain rfl : i = 4 := by omega
      have HQ : Hid ((4, true) = R) := Lib.hid (by rw [← HRUN.out]; rfl)
      clear HRUN
      go_wp2_with fail
      go_ret2
      exact ⟨by rw [← HQ.out] <;> rfl, HB.out⟩
    | l + 1 =>
      have hin : (i : Int) < 4 := by omega
      have hrun := HRUN.out
      rw [contN] at hrun
      by_cases hlt : i < s.size
      · have HBT := Lib.hid (bt_in hlt)
        rw [HBT.out] at hrun
        have q0 : ((i : Int) == (s.size : Int)) = false := by rw [beq_eq_false_iff_ne]; omega
        have i0 : 0 ≤ (i : Int) := by omega
        have HW2 := Lib.hid (fun wx g hb => within_any (s[i].toNat) lo hi g wx hb)
        generalize hcc : s[i].toNat = d at *
        by_cases hwi : lo ≤ d ∧ d ≤ hi
        · rw [if_pos ⟨hlt, hwi⟩] at hrun
          rw [decide_eq_true hwi] at HW2
          have HQ := Lib.hid hrun
          have e1 := Lib.hid (IntWalk.i64_in ((i : Int) + 1) (by omega))
          have e1 := e1.out
          clear hrun HRUN hwi
          go_wp2_with fail
          refine (HW2.out _ wr.heap.size (Blk.new _ _ _)).mono ?_
          rintro e w' ⟨rfl, rfl⟩
          go_wp2_with fail
          go_roundw
          case rel => exact ⟨i + 1, l, 128, 191, rfl, rfl, by go_num, by omega, by omega, HQ.out, HB.out.alloc (HB.out.size) _⟩
          case measure => simp [intOf]; omega
        · rw [if_neg (fun k => hwi k.2)] at hrun
          rw [decide_eq_false hwi] at HW2
          have HQ := Lib.hid hrun
          clear hrun HRUN hwi
          go_wp2_with fail
          refine (HW2.out _ wr.heap.size (Blk.new _ _ _)).mono ?_
          rintro e w' ⟨rfl, rfl⟩
          go_wp2_with fail
          go_ret2
          exact ⟨by rw [← HQ.out] <;> rfl, HB.out.alloc (HB.out.size) _⟩
      · rw [if_neg (fun k => hlt k.1)] at hrun
        obtain rfl : i = s.size := by omega
        have HQ := Lib.hid hrun
        clear hrun HRUN
        go_wp2_with fail
        go_ret2
        exact ⟨by rw [← HQ.out] <;> rfl, HB.out⟩

theorem spoint_any (s : ByteArray) (hs : 0 < s.size) (hsz : s.size ≤ 140737488351232) (w : World) :
    Calls Tryd.prog 27 #[.string s] w (PointPost w (pointN (bt s) s.size)) := by
  unfold pointN
  rw [bt_in hs]
  obtain ⟨c, hc⟩ : ∃ c, s[0].toNat = c := ⟨_, rfl⟩
  rw [hc]
  by_cases h : c < 194 ∨ 244 < c
  · rw [if_pos h]; exact point_none s c hs hc h w
  rw [if_neg h]
  by_cases h1 : c < 224
  · exact point_a s c hs hc (by omega) h1 hsz _ (by rw [show moreB c = 1 by unfold moreB; rw [if_neg (by omega), if_neg (by omega)], show loB c = 128 by unfold loB; rw [if_neg (by omega), if_neg (by omega)], show hiB c = 191 by unfold hiB; rw [if_neg (by omega), if_neg (by omega)]]) w
  by_cases h2 : c = 224
  · subst h2; exact point_b s hs hc hsz _ rfl w
  by_cases h3 : c = 237
  · subst h3; exact point_d s hs hc hsz _ rfl w
  by_cases h4 : c < 240
  · exact point_c s c hs hc (by omega) h4 h2 h3 hsz _ (by rw [show moreB c = 2 by unfold moreB; rw [if_neg (by omega), if_pos (by omega)], show loB c = 128 by unfold loB; rw [if_neg (by omega), if_neg (by omega)], show hiB c = 191 by unfold hiB; rw [if_neg (by omega), if_neg (by omega)]]) w
  by_cases h5 : c = 240
  · subst h5; exact point_e s hs hc hsz _ rfl w
  by_cases h6 : c = 244
  · subst h6; exact point_g s hs hc hsz _ rfl w
  exact point_f s c hs hc (by omega) (by omega) hsz _ (by rw [show moreB c = 3 by unfold moreB; rw [if_pos (by omega)], show loB c = 128 by unfold loB; rw [if_neg (by omega), if_neg (by omega)], show hiB c = 191 by unfold hiB; rw [if_neg (by omega), if_neg (by omega)]]) w
end Go.Proofs.YtiignmjglihbnaaDoor
