/- Chapter 10 of the program: within, point, unit (for seat json). -/
import Derived.Test.YtjfeebbhkolmoaaDoorJeP
import Derived.Laws.StandIn
import Derived.OwnWalk
namespace Go.Proofs.YtjfeebbhkolmoaaDoor.E
open Go.RowKit
set_option linter.unusedVariables false

section
open Go.RowKit
set_option maxRecDepth 100000 in
theorem within_any (c lo hi : Nat) (g : Nat) (w : World) (hb : Blk w g 5 #[.int .u8 lo, .int .u8 hi]) :
    Calls Tryd.prog 41 #[.int .u8 c, .slice (some ⟨g, 0, none⟩) 2 2] w fun e w' => e = .returned (.bool (decide (lo ≤ c ∧ c ≤ hi))) ∧ w' = w := by
  have c0 := hb.cell 0
  have c1 := hb.cell 1
  by_cases h1 : lo ≤ c
  · have h1' : (lo : Int) ≤ (c : Int) := by omega
    by_cases h2 : c ≤ hi
    · have h2' : (c : Int) ≤ (hi : Int) := by omega
      rw [show decide (lo ≤ c ∧ c ≤ hi) = true from decide_eq_true ⟨h1, h2⟩]
      clear hb h1 h2
      go_enter Tryd.func41, Tryd.ntmps41
      go_wp2_with fail
      refine wp_loop_rounds 2 ?_
      rw [rounds_succ]
      go_wp2_with fail
      go_ret
      exact ⟨rfl, rfl⟩
    · have h2' : ¬ ((c : Int) ≤ (hi : Int)) := by omega
      rw [show decide (lo ≤ c ∧ c ≤ hi) = false from decide_eq_false (by omega)]
      clear hb h1 h2
      go_enter Tryd.func41, Tryd.ntmps41
      go_wp2_with fail
      refine wp_loop_rounds 2 ?_
      rw [rounds_succ]
      go_wp2_with fail
      rw [rounds_succ]
      go_wp2_with fail
      go_ret
      exact ⟨rfl, rfl⟩
  · have h1' : ¬ ((lo : Int) ≤ (c : Int)) := by omega
    rw [show decide (lo ≤ c ∧ c ≤ hi) = false from decide_eq_false (by omega)]
    clear hb h1
    go_enter Tryd.func41, Tryd.ntmps41
    go_wp2_with fail
    refine wp_loop_rounds 2 ?_
    rw [rounds_succ]
    go_wp2_with fail
    rw [rounds_succ]
    go_wp2_with fail
    go_ret
    exact ⟨rfl, rfl⟩
def hexS : ByteArray := ⟨#[48, 49, 50, 51, 52, 53, 54, 55, 56, 57, 97, 98, 99, 100, 101, 102]⟩
def hexI (c : Nat) : Int := if 48 ≤ c ∧ c ≤ 57 then (c : Int) - 48 else if 97 ≤ c ∧ c ≤ 102 then (c : Int) - 87 else -1
theorem hexI_idx : ∀ c : Fin 256, firstIdx hexS (UInt8.ofNat c.val) = hexI c.val := by decide +kernel
set_option maxRecDepth 100000 in
set_option maxRecDepth 100000 in
theorem slByte (c : Nat) (hc : c < 256) (w : World) :
    Calls Tryd.prog 93 #[.string hexS, .int .u8 c] w fun e w' => e = .returned (.int .i64 (hexI c)) ∧ w' = w := by
  have hr := run_indexByte_string (P := Tryd.prog) hexS (c : Int)
  have hi : firstIdx hexS ((c : Int).toNat.toUInt8) = hexI c := hexI_idx ⟨c, hc⟩
  rw [hi] at hr
  have hx := run_callFunc_indexByte Tryd.func99 (by kernel_rfl) (by kernel_rfl) (by kernel_rfl) (by kernel_rfl)
  have hcall : ∀ w, (callFunc 99 #[.string hexS, .int .u8 c]).run Tryd.prog w = .ok (.value (.int .i64 (hexI c))) w := by
    intro w
    rw [hx, hr]
    rfl
  generalize hexS = S at *
  generalize hexI c = d at *
  clear hr hx hi
  go_enter Tryd.func93, Tryd.ntmps93
  go_wp2_with fail
  go_ret
  exact ⟨rfl, rfl⟩
set_option maxRecDepth 100000 in
theorem indexByte (c : Nat) (hc : c < 256) (w : World) :
    Calls Tryd.prog 82 #[.string hexS, .int .u8 c] w fun e w' => e = .returned (.int .i64 (hexI c)) ∧ w' = w := by
  have hr := Lib.hid (slByte c hc w)
  generalize hexS = S at *
  generalize hexI c = d at *
  go_enter Tryd.func82, Tryd.ntmps82
  go_wp2_with fail
  refine hr.out.mono ?_
  rintro e w' ⟨rfl, rfl⟩
  go_wp2_with fail
  go_ret
  exact ⟨rfl, rfl⟩
end
section
open Go.RowKit
/-- so many bytes more are due at a place, the next within these ends -/
def contN (b : Nat → Nat) (sz : Nat) : Nat → Nat → Nat → Nat → Nat × Bool
  | 0, i, _, _ => (i, true)
  | l + 1, i, lo, hi => if i < sz ∧ lo ≤ b i ∧ b i ≤ hi then contN b sz l (i + 1) 128 191 else (i, false)
def pointN (b : Nat → Nat) (sz : Nat) : Nat × Bool := if b 0 < 194 ∨ 244 < b 0 then (0, false) else contN b sz (moreB (b 0)) 1 (loB (b 0)) (hiB (b 0))
def PointPost (w : World) (r : Nat × Bool) (e : Ending) (w' : World) : Prop := e = .returned (.tuple #[.int .i64 r.1, .bool r.2]) ∧ Below w.heap.size w w'
def PLRel (w : World) (s : ByteArray) (n : Nat) (R : Nat × Bool) (v6 v7 v8 : Value) (wr : World) : Prop :=
  ∃ i l lo hi : Nat, v6 = .int .u8 lo ∧ v7 = .int .u8 hi ∧ v8 = .int .i64 i ∧ i + l = n ∧ i ≤ s.size ∧ contN (bt s) s.size l i lo hi = R ∧ Below w.heap.size w wr
set_option maxRecDepth 100000 in
theorem point_none (s : ByteArray) (c : Nat) (hs : 0 < s.size) (hc : s[0].toNat = c) (h : c < 194 ∨ 244 < c) (w : World) :
    Calls Tryd.prog 42 #[.string s] w (PointPost w (0, false)) := by
  have HWI := Lib.hid (fun wx g hb => within_any c 194 244 g wx hb)
  rw [show decide (194 ≤ c ∧ c ≤ 244) = false from decide_eq_false (by omega)] at HWI
  clear h
  go_enter Tryd.func42, Tryd.ntmps42
  go_wp2_with fail
  refine (HWI.out _ w.heap.size (Blk.new _ _ _)).mono ?_
  rintro e w' ⟨rfl, rfl⟩
  go_wp2_with fail
  go_ret2
  exact ⟨rfl, (Below.refl _ _).alloc (Nat.le_refl _) _⟩
set_option maxRecDepth 100000 in
set_option maxHeartbeats 1500000 in
theorem point_a (s : ByteArray) (c : Nat) (hs : 0 < s.size) (hc : s[0].toNat = c) (h : 194 ≤ c) (h' : c < 224) (hsz : s.size ≤ 140737488351232) (R : Nat × Bool) (hR : contN (bt s) s.size 1 1 128 191 = R) (w : World) :
    Calls Tryd.prog 42 #[.string s] w (PointPost w R) := by
  have HWI := Lib.hid (fun wx g hb => within_any c 194 244 g wx hb)
  rw [show decide (194 ≤ c ∧ c ≤ 244) = true from decide_eq_true (by omega)] at HWI
  have HR := Lib.hid hR
  have p1 : ¬ (224 ≤ (c : Int)) := by omega
  have p2 : ¬ (240 ≤ (c : Int)) := by omega
  have n224 : ((c : Int) == 224) = false := by rw [beq_eq_false_iff_ne]; omega
  have n237 : ((c : Int) == 237) = false := by rw [beq_eq_false_iff_ne]; omega
  have n240 : ((c : Int) == 240) = false := by rw [beq_eq_false_iff_ne]; omega
  have n244 : ((c : Int) == 244) = false := by rw [beq_eq_false_iff_ne]; omega
  clear hR h h'
  go_enter Tryd.func42, Tryd.ntmps42
  go_wp2_with fail
  refine (HWI.out _ w.heap.size (Blk.new _ _ _)).mono ?_
  rintro e w' ⟨rfl, rfl⟩
  go_wp2_with fail
  go_loopw [2, 3, 6, 7, 8] (fun _ _ v6 v7 v8 wr => PLRel w s 2 R v6 v7 v8 wr) (fun _ _ _ _ v8 _ => 2 - (intOf v8).toNat)
  case atStart => exact ⟨1, 1, 128, 191, rfl, rfl, rfl, rfl, hs, HR.out, (Below.refl _ _).alloc (Nat.le_refl _) _⟩
  case round =>
    obtain ⟨i, l, lo, hi, rfl, rfl, rfl, hil, his, hrun, hbel⟩ := hrel
    have HB := Lib.hid hbel
    have HRUN := Lib.hid hrun
    clear hrun hbel
    match l with
    | 0 =>
      obtain rfl : i = 2 := by omega
      have HQ : Hid ((2, true) = R) := Lib.hid (by rw [← HRUN.out]; rfl)
      clear HRUN
      go_wp2_with fail
      go_ret2
      exact ⟨by rw [← HQ.out] <;> rfl, HB.out⟩
    | l + 1 =>
      have hin : (i : Int) < 2 := by omega
      have hrun := HRUN.out
      rw [contN] at hrun
      by_cases hlt : i < s.size
      · have HBT := Lib.hid (bt_in hlt)
        rw [HBT.out] at hrun
        have q0 : ((i : Int) == (s.size : Int)) = false := by rw [beq_eq_false_iff_ne]; omega
        have i0 : 0 ≤ (i : Int) := by omega
        have HW2 := Lib.hid (fun wx g hb => within_any (s[i].toNat) lo hi g wx hb)
        generalize hcc : s[i].toNat = d at *
        by_cases hwi : lo ≤ d ∧ d ≤ hi
        · rw [if_pos ⟨hlt, hwi⟩] at hrun
          rw [decide_eq_true hwi] at HW2
          have HQ := Lib.hid hrun
          have e1 := Lib.hid (IntWalk.i64_in ((i : Int) + 1) (by omega))
          have e1 := e1.out
          clear hrun HRUN hwi
          go_wp2_with fail
          refine (HW2.out _ wr.heap.size (Blk.new _ _ _)).mono ?_
          rintro e w' ⟨rfl, rfl⟩
          go_wp2_with fail
          go_roundw
          case rel => exact ⟨i + 1, l, 128, 191, rfl, rfl, by go_num, by omega, by omega, HQ.out, HB.out.alloc (HB.out.size) _⟩
          case measure => simp [intOf]; omega
        · rw [if_neg (fun k => hwi k.2)] at hrun
          rw [decide_eq_false hwi] at HW2
          have HQ := Lib.hid hrun
          clear hrun HRUN hwi
          go_wp2_with fail
          refine (HW2.out _ wr.heap.size (Blk.new _ _ _)).mono ?_
          rintro e w' ⟨rfl, rfl⟩
          go_wp2_with fail
          go_ret2
          exact ⟨by rw [← HQ.out] <;> rfl, HB.out.alloc (HB.out.size) _⟩
      · rw [if_neg (fun k => hlt k.1)] at hrun
        obtain rfl : i = s.size := by omega
        have HQ := Lib.hid hrun
        clear hrun HRUN
        go_wp2_with fail
        go_ret2
        exact ⟨by rw [← HQ.out] <;> rfl, HB.out⟩
set_option maxRecDepth 100000 in
set_option maxHeartbeats 1500000 in
theorem point_b (s : ByteArray) (hs : 0 < s.size) (hc : s[0].toNat = 224) (hsz : s.size ≤ 140737488351232) (R : Nat × Bool) (hR : contN (bt s) s.size 2 1 160 191 = R) (w : World) :
    Calls Tryd.prog 42 #[.string s] w (PointPost w R) := by
  have HWI := Lib.hid (fun wx g hb => within_any 224 194 244 g wx hb)
  rw [show decide (194 ≤ 224 ∧ 224 ≤ 244) = true from decide_eq_true (by omega)] at HWI
  have HR := Lib.hid hR
  clear hR
  go_enter Tryd.func42, Tryd.ntmps42
  go_wp2_with fail
  refine (HWI.out _ w.heap.size (Blk.new _ _ _)).mono ?_
  rintro e w' ⟨rfl, rfl⟩
  go_wp2_with fail
  go_loopw [2, 3, 6, 7, 8] (fun _ _ v6 v7 v8 wr => PLRel w s 3 R v6 v7 v8 wr) (fun _ _ _ _ v8 _ => 3 - (intOf v8).toNat)
  case atStart => exact ⟨1, 2, 160, 191, rfl, rfl, rfl, rfl, hs, HR.out, (Below.refl _ _).alloc (Nat.le_refl _) _⟩
  case round =>
    obtain ⟨i, l, lo, hi, rfl, rfl, rfl, hil, his, hrun, hbel⟩ := hrel
    have HB := Lib.hid hbel
    have HRUN := Lib.hid hrun
    clear hrun hbel
    match l with
    | 0 =>
      obtain rfl : i = 3 := by omega
      have HQ : Hid ((3, true) = R) := Lib.hid (by rw [← HRUN.out]; rfl)
      clear HRUN
      go_wp2_with fail
      go_ret2
      exact ⟨by rw [← HQ.out] <;> rfl, HB.out⟩
    | l + 1 =>
      have hin : (i : Int) < 3 := by omega
      have hrun := HRUN.out
      rw [contN] at hrun
      by_cases hlt : i < s.size
      · have HBT := Lib.hid (bt_in hlt)
        rw [HBT.out] at hrun
        have q0 : ((i : Int) == (s.size : Int)) = false := by rw [beq_eq_false_iff_ne]; omega
        have i0 : 0 ≤ (i : Int) := by omega
        have HW2 := Lib.hid (fun wx g hb => within_any (s[i].toNat) lo hi g wx hb)
        generalize hcc : s[i].toNat = d at *
        by_cases hwi : lo ≤ d ∧ d ≤ hi
        · rw [if_pos ⟨hlt, hwi⟩] at hrun
          rw [decide_eq_true hwi] at HW2
          have HQ := Lib.hid hrun
          have e1 := Lib.hid (IntWalk.i64_in ((i : Int) + 1) (by omega))
          have e1 := e1.out
          clear hrun HRUN hwi
          go_wp2_with fail
          refine (HW2.out _ wr.heap.size (Blk.new _ _ _)).mono ?_
          rintro e w' ⟨rfl, rfl⟩
          go_wp2_with fail
          go_roundw
          case rel => exact ⟨i + 1, l, 128, 191, rfl, rfl, by go_num, by omega, by omega, HQ.out, HB.out.alloc (HB.out.size) _⟩
          case measure => simp [intOf]; omega
        · rw [if_neg (fun k => hwi k.2)] at hrun
          rw [decide_eq_false hwi] at HW2
          have HQ := Lib.hid hrun
          clear hrun HRUN hwi
          go_wp2_with fail
          refine (HW2.out _ wr.heap.size (Blk.new _ _ _)).mono ?_
          rintro e w' ⟨rfl, rfl⟩
          go_wp2_with fail
          go_ret2
          exact ⟨by rw [← HQ.out] <;> rfl, HB.out.alloc (HB.out.size) _⟩
      · rw [if_neg (fun k => hlt k.1)] at hrun
        obtain rfl : i = s.size := by omega
        have HQ := Lib.hid hrun
        clear hrun HRUN
        go_wp2_with fail
        go_ret2
        exact ⟨by rw [← HQ.out] <;> rfl, HB.out⟩
set_option maxRecDepth 100000 in
set_option maxHeartbeats 1500000 in
theorem point_c (s : ByteArray) (c : Nat) (hs : 0 < s.size) (hc : s[0].toNat = c) (h : 224 ≤ c) (h' : c < 240) (h1 : c ≠ 224) (h2 : c ≠ 237) (hsz : s.size ≤ 140737488351232) (R : Nat × Bool) (hR : contN (bt s) s.size 2 1 128 191 = R) (w : World) :
    Calls Tryd.prog 42 #[.string s] w (PointPost w R) := by
  have HWI := Lib.hid (fun wx g hb => within_any c 194 244 g wx hb)
  rw [show decide (194 ≤ c ∧ c ≤ 244) = true from decide_eq_true (by omega)] at HWI
  have HR := Lib.hid hR
  have p1 : 224 ≤ (c : Int) := by omega
  have p2 : ¬ (240 ≤ (c : Int)) := by omega
  have n224 : ((c : Int) == 224) = false := by rw [beq_eq_false_iff_ne]; omega
  have n237 : ((c : Int) == 237) = false := by rw [beq_eq_false_iff_ne]; omega
  have n240 : ((c : Int) == 240) = false := by rw [beq_eq_false_iff_ne]; omega
  have n244 : ((c : Int) == 244) = false := by rw [beq_eq_false_iff_ne]; omega
  clear hR h h' h1 h2
  go_enter Tryd.func42, Tryd.ntmps42
  go_wp2_with fail
  refine (HWI.out _ w.heap.size (Blk.new _ _ _)).mono ?_
  rintro e w' ⟨rfl, rfl⟩
  go_wp2_with fail
  go_loopw [2, 3, 6, 7, 8] (fun _ _ v6 v7 v8 wr => PLRel w s 3 R v6 v7 v8 wr) (fun _ _ _ _ v8 _ => 3 - (intOf v8).toNat)
  case atStart => exact ⟨1, 2, 128, 191, rfl, rfl, rfl, rfl, hs, HR.out, (Below.refl _ _).alloc (Nat.le_refl _) _⟩
  case round =>
    obtain ⟨i, l, lo, hi, rfl, rfl, rfl, hil, his, hrun, hbel⟩ := hrel
    have HB := Lib.hid hbel
    have HRUN := Lib.hid hrun
    clear hrun hbel
    match l with
    | 0 =>
      obtain rfl : i = 3 := by omega
      have HQ : Hid ((3, true) = R) := Lib.hid (by rw [← HRUN.out]; rfl)
      clear HRUN
      go_wp2_with fail
      go_ret2
      exact ⟨by rw [← HQ.out] <;> rfl, HB.out⟩
    | l + 1 =>
      have hin : (i : Int) < 3 := by omega
      have hrun := HRUN.out
      rw [contN] at hrun
      by_cases hlt : i < s.size
      · have HBT := Lib.hid (bt_in hlt)
        rw [HBT.out] at hrun
        have q0 : ((i : Int) == (s.size : Int)) = false := by rw [beq_eq_false_iff_ne]; omega
        have i0 : 0 ≤ (i : Int) := by omega
        have HW2 := Lib.hid (fun wx g hb => within_any (s[i].toNat) lo hi g wx hb)
        generalize hcc : s[i].toNat = d at *
        by_cases hwi : lo ≤ d ∧ d ≤ hi
        · rw [if_pos ⟨hlt, hwi⟩] at hrun
          rw [decide_eq_true hwi] at HW2
          have HQ := Lib.hid hrun
          have e1 := Lib.hid (IntWalk.i64_in ((i : Int) + 1) (by omega))
          have e1 := e1.out
          clear hrun HRUN hwi
          go_wp2_with fail
          refine (HW2.out _ wr.heap.size (Blk.new _ _ _)).mono ?_
          rintro e w' ⟨rfl, rfl⟩
          go_wp2_with fail
          go_roundw
          case rel => exact ⟨i + 1, l, 128, 191, rfl, rfl, by go_num, by omega, by omega, HQ.out, HB.out.alloc (HB.out.size) _⟩
          case measure => simp [intOf]; omega
        · rw [if_neg (fun k => hwi k.2)] at hrun
          rw [decide_eq_false hwi] at HW2
          have HQ := Lib.hid hrun
          clear hrun HRUN hwi
          go_wp2_with fail
          refine (HW2.out _ wr.heap.size (Blk.new _ _ _)).mono ?_
          rintro e w' ⟨rfl, rfl⟩
          go_wp2_with fail
          go_ret2
          exact ⟨by rw [← HQ.out] <;> rfl, HB.out.alloc (HB.out.size) _⟩
      · rw [if_neg (fun k => hlt k.1)] at hrun
        obtain rfl : i = s.size := by omega
        have HQ := Lib.hid hrun
        clear hrun HRUN
        go_wp2_with fail
        go_ret2
        exact ⟨by rw [← HQ.out] <;> rfl, HB.out⟩
set_option maxRecDepth 100000 in
set_option maxHeartbeats 1500000 in
theorem point_d (s : ByteArray) (hs : 0 < s.size) (hc : s[0].toNat = 237) (hsz : s.size ≤ 140737488351232) (R : Nat × Bool) (hR : contN (bt s) s.size 2 1 128 159 = R) (w : World) :
    Calls Tryd.prog 42 #[.string s] w (PointPost w R) := by
  have HWI := Lib.hid (fun wx g hb => within_any 237 194 244 g wx hb)
  rw [show decide (194 ≤ 237 ∧ 237 ≤ 244) = true from decide_eq_true (by omega)] at HWI
  have HR := Lib.hid hR
  clear hR
  go_enter Tryd.func42, Tryd.ntmps42
  go_wp2_with fail
  refine (HWI.out _ w.heap.size (Blk.new _ _ _)).mono ?_
  rintro e w' ⟨rfl, rfl⟩
  go_wp2_with fail
  go_loopw [2, 3, 6, 7, 8] (fun _ _ v6 v7 v8 wr => PLRel w s 3 R v6 v7 v8 wr) (fun _ _ _ _ v8 _ => 3 - (intOf v8).toNat)
  case atStart => exact ⟨1, 2, 128, 159, rfl, rfl, rfl, rfl, hs, HR.out, (Below.refl _ _).alloc (Nat.le_refl _) _⟩
  case round =>
    obtain ⟨i, l, lo, hi, rfl, rfl, rfl, hil, his, hrun, hbel⟩ := hrel
    have HB := Lib.hid hbel
    have HRUN := Lib.hid hrun
    clear hrun hbel
    match l with
    | 0 =>
      obtain rfl : i = 3 := by omega
      have HQ : Hid ((3, true) = R) := Lib.hid (by rw [← HRUN.out]; rfl)
      clear HRUN
      go_wp2_with fail
      go_ret2
      exact ⟨by rw [← HQ.out] <;> rfl, HB.out⟩
    | l + 1 =>
      have hin : (i : Int) < 3 := by omega
      have hrun := HRUN.out
      rw [contN] at hrun
      by_cases hlt : i < s.size
      · have HBT := Lib.hid (bt_in hlt)
        rw [HBT.out] at hrun
        have q0 : ((i : Int) == (s.size : Int)) = false := by rw [beq_eq_false_iff_ne]; omega
        have i0 : 0 ≤ (i : Int) := by omega
        have HW2 := Lib.hid (fun wx g hb => within_any (s[i].toNat) lo hi g wx hb)
        generalize hcc : s[i].toNat = d at *
        by_cases hwi : lo ≤ d ∧ d ≤ hi
        · rw [if_pos ⟨hlt, hwi⟩] at hrun
          rw [decide_eq_true hwi] at HW2
          have HQ := Lib.hid hrun
          have e1 := Lib.hid (IntWalk.i64_in ((i : Int) + 1) (by omega))
          have e1 := e1.out
          clear hrun HRUN hwi
          go_wp2_with fail
          refine (HW2.out _ wr.heap.size (Blk.new _ _ _)).mono ?_
          rintro e w' ⟨rfl, rfl⟩
          go_wp2_with fail
          go_roundw
          case rel => exact ⟨i + 1, l, 128, 191, rfl, rfl, by go_num, by omega, by omega, HQ.out, HB.out.alloc (HB.out.size) _⟩
          case measure => simp [intOf]; omega
        · rw [if_neg (fun k => hwi k.2)] at hrun
          rw [decide_eq_false hwi] at HW2
          have HQ := Lib.hid hrun
          clear hrun HRUN hwi
          go_wp2_with fail
          refine (HW2.out _ wr.heap.size (Blk.new _ _ _)).mono ?_
          rintro e w' ⟨rfl, rfl⟩
          go_wp2_with fail
          go_ret2
          exact ⟨by rw [← HQ.out] <;> rfl, HB.out.alloc (HB.out.size) _⟩
      · rw [if_neg (fun k => hlt k.1)] at hrun
        obtain rfl : i = s.size := by omega
        have HQ := Lib.hid hrun
        clear hrun HRUN
        go_wp2_with fail
        go_ret2
        exact ⟨by rw [← HQ.out] <;> rfl, HB.out⟩
set_option maxRecDepth 100000 in
set_option maxHeartbeats 1500000 in
theorem point_e (s : ByteArray) (hs : 0 < s.size) (hc : s[0].toNat = 240) (hsz : s.size ≤ 140737488351232) (R : Nat × Bool) (hR : contN (bt s) s.size 3 1 144 191 = R) (w : World) :
    Calls Tryd.prog 42 #[.string s] w (PointPost w R) := by
  have HWI := Lib.hid (fun wx g hb => within_any 240 194 244 g wx hb)
  rw [show decide (194 ≤ 240 ∧ 240 ≤ 244) = true from decide_eq_true (by omega)] at HWI
  have HR := Lib.hid hR
  clear hR
  go_enter Tryd.func42, Tryd.ntmps42
  go_wp2_with fail
  refine (HWI.out _ w.heap.size (Blk.new _ _ _)).mono ?_
  rintro e w' ⟨rfl, rfl⟩
  go_wp2_with fail
  go_loopw [2, 3, 6, 7, 8] (fun _ _ v6 v7 v8 wr => PLRel w s 4 R v6 v7 v8 wr) (fun _ _ _ _ v8 _ => 4 - (intOf v8).toNat)
  case atStart => exact ⟨1, 3, 144, 191, rfl, rfl, rfl, rfl, hs, HR.out, (Below.refl _ _).alloc (Nat.le_refl _) _⟩
  case round =>
    obtain ⟨i, l, lo, hi, rfl, rfl, rfl, hil, his, hrun, hbel⟩ := hrel
    have HB := Lib.hid hbel
    have HRUN := Lib.hid hrun
    clear hrun hbel
    match l with
    | 0 =>
      obtain rfl : i = 4 := by omega
      have HQ : Hid ((4, true) = R) := Lib.hid (by rw [← HRUN.out]; rfl)
      clear HRUN
      go_wp2_with fail
      go_ret2
      exact ⟨by rw [← HQ.out] <;> rfl, HB.out⟩
    | l + 1 =>
      have hin : (i : Int) < 4 := by omega
      have hrun := HRUN.out
      rw [contN] at hrun
      by_cases hlt : i < s.size
      · have HBT := Lib.hid (bt_in hlt)
        rw [HBT.out] at hrun
        have q0 : ((i : Int) == (s.size : Int)) = false := by rw [beq_eq_false_iff_ne]; omega
        have i0 : 0 ≤ (i : Int) := by omega
        have HW2 := Lib.hid (fun wx g hb => within_any (s[i].toNat) lo hi g wx hb)
        generalize hcc : s[i].toNat = d at *
        by_cases hwi : lo ≤ d ∧ d ≤ hi
        · rw [if_pos ⟨hlt, hwi⟩] at hrun
          rw [decide_eq_true hwi] at HW2
          have HQ := Lib.hid hrun
          have e1 := Lib.hid (IntWalk.i64_in ((i : Int) + 1) (by omega))
          have e1 := e1.out
          clear hrun HRUN hwi
          go_wp2_with fail
          refine (HW2.out _ wr.heap.size (Blk.new _ _ _)).mono ?_
          rintro e w' ⟨rfl, rfl⟩
          go_wp2_with fail
          go_roundw
          case rel => exact ⟨i + 1, l, 128, 191, rfl, rfl, by go_num, by omega, by omega, HQ.out, HB.out.alloc (HB.out.size) _⟩
          case measure => simp [intOf]; omega
        · rw [if_neg (fun k => hwi k.2)] at hrun
          rw [decide_eq_false hwi] at HW2
          have HQ := Lib.hid hrun
          clear hrun HRUN hwi
          go_wp2_with fail
          refine (HW2.out _ wr.heap.size (Blk.new _ _ _)).mono ?_
          rintro e w' ⟨rfl, rfl⟩
          go_wp2_with fail
          go_ret2
          exact ⟨by rw [← HQ.out] <;> rfl, HB.out.alloc (HB.out.size) _⟩
      · rw [if_neg (fun k => hlt k.1)] at hrun
        obtain rfl : i = s.size := by omega
        have HQ := Lib.hid hrun
        clear hrun HRUN
        go_wp2_with fail
        go_ret2
        exact ⟨by rw [← HQ.out] <;> rfl, HB.out⟩
set_option maxRecDepth 100000 in
set_option maxHeartbeats 1500000 in
theorem point_f (s : ByteArray) (c : Nat) (hs : 0 < s.size) (hc : s[0].toNat = c) (h : 240 < c) (h' : c < 244) (hsz : s.size ≤ 140737488351232) (R : Nat × Bool) (hR : contN (bt s) s.size 3 1 128 191 = R) (w : World) :
    Calls Tryd.prog 42 #[.string s] w (PointPost w R) := by
  have HWI := Lib.hid (fun wx g hb => within_any c 194 244 g wx hb)
  rw [show decide (194 ≤ c ∧ c ≤ 244) = true from decide_eq_true (by omega)] at HWI
  have HR := Lib.hid hR
  have p1 : 224 ≤ (c : Int) := by omega
  have p2 : 240 ≤ (c : Int) := by omega
  have n224 : ((c : Int) == 224) = false := by rw [beq_eq_false_iff_ne]; omega
  have n237 : ((c : Int) == 237) = false := by rw [beq_eq_false_iff_ne]; omega
  have n240 : ((c : Int) == 240) = false := by rw [beq_eq_false_iff_ne]; omega
  have n244 : ((c : Int) == 244) = false := by rw [beq_eq_false_iff_ne]; omega
  clear hR h h'
  go_enter Tryd.func42, Tryd.ntmps42
  go_wp2_with fail
  refine (HWI.out _ w.heap.size (Blk.new _ _ _)).mono ?_
  rintro e w' ⟨rfl, rfl⟩
  go_wp2_with fail
  go_loopw [2, 3, 6, 7, 8] (fun _ _ v6 v7 v8 wr => PLRel w s 4 R v6 v7 v8 wr) (fun _ _ _ _ v8 _ => 4 - (intOf v8).toNat)
  case atStart => exact ⟨1, 3, 128, 191, rfl, rfl, rfl, rfl, hs, HR.out, (Below.refl _ _).alloc (Nat.le_refl _) _⟩
  case round =>
    obtain ⟨i, l, lo, hi, rfl, rfl, rfl, hil, his, hrun, hbel⟩ := hrel
    have HB := Lib.hid hbel
    have HRUN := Lib.hid hrun
    clear hrun hbel
    match l with
    | 0 =>
      obtain rfl : i = 4 := by omega
      have HQ : Hid ((4, true) = R) := Lib.hid (by rw [← HRUN.out]; rfl)
      clear HRUN
      go_wp2_with fail
      go_ret2
      exact ⟨by rw [← HQ.out] <;> rfl, HB.out⟩
    | l + 1 =>
      have hin : (i : Int) < 4 := by omega
      have hrun := HRUN.out
      rw [contN] at hrun
      by_cases hlt : i < s.size
      · have HBT := Lib.hid (bt_in hlt)
        rw [HBT.out] at hrun
        have q0 : ((i : Int) == (s.size : Int)) = false := by rw [beq_eq_false_iff_ne]; omega
        have i0 : 0 ≤ (i : Int) := by omega
        have HW2 := Lib.hid (fun wx g hb => within_any (s[i].toNat) lo hi g wx hb)
        generalize hcc : s[i].toNat = d at *
        by_cases hwi : lo ≤ d ∧ d ≤ hi
        · rw [if_pos ⟨hlt, hwi⟩] at hrun
          rw [decide_eq_true hwi] at HW2
          have HQ := Lib.hid hrun
          have e1 := Lib.hid (IntWalk.i64_in ((i : Int) + 1) (by omega))
          have e1 := e1.out
          clear hrun HRUN hwi
          go_wp2_with fail
          refine (HW2.out _ wr.heap.size (Blk.new _ _ _)).mono ?_
          rintro e w' ⟨rfl, rfl⟩
          go_wp2_with fail
          go_roundw
          case rel => exact ⟨i + 1, l, 128, 191, rfl, rfl, by go_num, by omega, by omega, HQ.out, HB.out.alloc (HB.out.size) _⟩
          case measure => simp [intOf]; omega
        · rw [if_neg (fun k => hwi k.2)] at hrun
          rw [decide_eq_false hwi] at HW2
          have HQ := Lib.hid hrun
          clear hrun HRUN hwi
          go_wp2_with fail
          refine (HW2.out _ wr.heap.size (Blk.new _ _ _)).mono ?_
          rintro e w' ⟨rfl, rfl⟩
          go_wp2_with fail
          go_ret2
          exact ⟨by rw [← HQ.out] <;> rfl, HB.out.alloc (HB.out.size) _⟩
      · rw [if_neg (fun k => hlt k.1)] at hrun
        obtain rfl : i = s.size := by omega
        have HQ := Lib.hid hrun
        clear hrun HRUN
        go_wp2_with fail
        go_ret2
        exact ⟨by rw [← HQ.out] <;> rfl, HB.out⟩
set_option maxRecDepth 100000 in
set_option maxHeartbeats 1500000 in
theorem point_g (s : ByteArray) (hs : 0 < s.size) (hc : s[0].toNat = 244) (hsz : s.size ≤ 140737488351232) (R : Nat × Bool) (hR : contN (bt s) s.size 3 1 128 143 = R) (w : World) :
    Calls Tryd.prog 42 #[.string s] w (PointPost w R) := by
  have HWI := Lib.hid (fun wx g hb => within_any 244 194 244 g wx hb)
  rw [show decide (194 ≤ 244 ∧ 244 ≤ 244) = true from decide_eq_true (by omega)] at HWI
  have HR := Lib.hid hR
  clear hR
  go_enter Tryd.func42, Tryd.ntmps42
  go_wp2_with fail
  refine (HWI.out _ w.heap.size (Blk.new _ _ _)).mono ?_
  rintro e w' ⟨rfl, rfl⟩
  go_wp2_with fail
  go_loopw [2, 3, 6, 7, 8] (fun _ _ v6 v7 v8 wr => PLRel w s 4 R v6 v7 v8 wr) (fun _ _ _ _ v8 _ => 4 - (intOf v8).toNat)
  case atStart => exact ⟨1, 3, 128, 143, rfl, rfl, rfl, rfl, hs, HR.out, (Below.refl _ _).alloc (Nat.le_refl _) _⟩
  case round =>
    obtain ⟨i, l, lo, hi, rfl, rfl, rfl, hil, his, hrun, hbel⟩ := hrel
    have HB := Lib.hid hbel
    have HRUN := Lib.hid hrun
    clear hrun hbel
    match l with
    | 0 =>
      obtain rfl : i = 4 := by omega
      have HQ : Hid ((4, true) = R) := Lib.hid (by rw [← HRUN.out]; rfl)
      clear HRUN
      go_wp2_with fail
      go_ret2
      exact ⟨by rw [← HQ.out] <;> rfl, HB.out⟩
    | l + 1 =>
      have hin : (i : Int) < 4 := by omega
      have hrun := HRUN.out
      rw [contN] at hrun
      by_cases hlt : i < s.size
      · have HBT := Lib.hid (bt_in hlt)
        rw [HBT.out] at hrun
        have q0 : ((i : Int) == (s.size : Int)) = false := by rw [beq_eq_false_iff_ne]; omega
        have i0 : 0 ≤ (i : Int) := by omega
        have HW2 := Lib.hid (fun wx g hb => within_any (s[i].toNat) lo hi g wx hb)
        generalize hcc : s[i].toNat = d at *
        by_cases hwi : lo ≤ d ∧ d ≤ hi
        · rw [if_pos ⟨hlt, hwi⟩] at hrun
          rw [decide_eq_true hwi] at HW2
          have HQ := Lib.hid hrun
          have e1 := Lib.hid (IntWalk.i64_in ((i : Int) + 1) (by omega))
          have e1 := e1.out
          clear hrun HRUN hwi
          go_wp2_with fail
          refine (HW2.out _ wr.heap.size (Blk.new _ _ _)).mono ?_
          rintro e w' ⟨rfl, rfl⟩
          go_wp2_with fail
          go_roundw
          case rel => exact ⟨i + 1, l, 128, 191, rfl, rfl, by go_num, by omega, by omega, HQ.out, HB.out.alloc (HB.out.size) _⟩
          case measure => simp [intOf]; omega
        · rw [if_neg (fun k => hwi k.2)] at hrun
          rw [decide_eq_false hwi] at HW2
          have HQ := Lib.hid hrun
          clear hrun HRUN hwi
          go_wp2_with fail
          refine (HW2.out _ wr.heap.size (Blk.new _ _ _)).mono ?_
          rintro e w' ⟨rfl, rfl⟩
          go_wp2_with fail
          go_ret2
          exact ⟨by rw [← HQ.out] <;> rfl, HB.out.alloc (HB.out.size) _⟩
      · rw [if_neg (fun k => hlt k.1)] at hrun
        obtain rfl : i = s.size := by omega
        have HQ := Lib.hid hrun
        clear hrun HRUN
        go_wp2_with fail
        go_ret2
        exact ⟨by rw [← HQ.out] <;> rfl, HB.out⟩
theorem spoint_any (s : ByteArray) (hs : 0 < s.size) (hsz : s.size ≤ 140737488351232) (w : World) :
    Calls Tryd.prog 42 #[.string s] w (PointPost w (pointN (bt s) s.size)) := by
  unfold pointN
  rw [bt_in hs]
  obtain ⟨c, hc⟩ : ∃ c, s[0].toNat = c := ⟨_, rfl⟩
  rw [hc]
  by_cases h : c < 194 ∨ 244 < c
  · rw [if_pos h]; exact point_none s c hs hc h w
  rw [if_neg h]
  by_cases h1 : c < 224
  · exact point_a s c hs hc (by omega) h1 hsz _ (by rw [show moreB c = 1 by unfold moreB; rw [if_neg (by omega), if_neg (by omega)], show loB c = 128 by unfold loB; rw [if_neg (by omega), if_neg (by omega)], show hiB c = 191 by unfold hiB; rw [if_neg (by omega), if_neg (by omega)]]) w
  by_cases h2 : c = 224
  · subst h2; exact point_b s hs hc hsz _ rfl w
  by_cases h3 : c = 237
  · subst h3; exact point_d s hs hc hsz _ rfl w
  by_cases h4 : c < 240
  · exact point_c s c hs hc (by omega) h4 h2 h3 hsz _ (by rw [show moreB c = 2 by unfold moreB; rw [if_neg (by omega), if_pos (by omega)], show loB c = 128 by unfold loB; rw [if_neg (by omega), if_neg (by omega)], show hiB c = 191 by unfold hiB; rw [if_neg (by omega), if_neg (by omega)]]) w
  by_cases h5 : c = 240
  · subst h5; exact point_e s hs hc hsz _ rfl w
  by_cases h6 : c = 244
  · subst h6; exact point_g s hs hc hsz _ rfl w
  exact point_f s c hs hc (by omega) (by omega) hsz _ (by rw [show moreB c = 3 by unfold moreB; rw [if_pos (by omega)], show loB c = 128 by unfold loB; rw [if_neg (by omega), if_neg (by omega)], show hiB c = 191 by unfold hiB; rw [if_neg (by omega), if_neg (by omega)]]) w
end
section
open Go.RowKit
def digN (c : Nat) : Nat := (digZ c).toNat
/-- is a number of a code unit, of which so many digits stood, no beginning of one that is due? -/
def offU (low : Bool) (i x : Nat) : Bool := decide ((i = 0 ∧ low = true ∧ x ≠ 13) ∨ (i = 1 ∧ (low = true ↔ ¬ (220 ≤ x ∧ x ≤ 223))))
def unitN (b : Nat → Nat) (low : Bool) : Nat → Nat → Nat → Nat × Nat × Bool
  | 0, i, x => (x, i, true)
  | f + 1, i, x => if digZ (b i) < 0 then (0, i, false) else if offU low i (16 * x + digN (b i)) = true then (0, i, false) else unitN b low f (i + 1) (16 * x + digN (b i))
def UnitPost (w : World) (r : Nat × Nat × Bool) (e : Ending) (w' : World) : Prop := e = .returned (.tuple #[.int .i32 r.1, .int .i64 r.2.1, .bool r.2.2]) ∧ Below w.heap.size w w'
def xLim (i : Nat) : Nat := if i = 0 then 1 else if i = 1 then 16 else if i = 2 then 256 else if i = 3 then 4096 else 65536
theorem xLim_le (i : Nat) : xLim i ≤ 65536 := by 
  unfold xLim
  split
  · omega
  split
  · omega
  split
  · omega
  split <;> omega
theorem xLim_next (i x d : Nat) (hi : i < 4) (hx : x < xLim i) (hd : d < 16) : 16 * x + d < xLim (i + 1) := by
  unfold xLim at *
  have : i = 0 ∨ i = 1 ∨ i = 2 ∨ i = 3 := by omega
  rcases this with rfl | rfl | rfl | rfl <;> simp at * <;> omega
def URel (w : World) (s : ByteArray) (low : Bool) (R : Nat × Nat × Bool) (v7 v10 : Value) (wr : World) : Prop :=
  ∃ i f x : Nat, v7 = .int .i32 x ∧ v10 = .int .i64 i ∧ i + f = 4 ∧ i ≤ s.size ∧ x < xLim i ∧ unitN (bt s) low f i x = R ∧ Below w.heap.size w wr
theorem dig_fact : ∀ c : Fin 256, (digZ c.val < 0 → hexI (c.val ||| 32) < 0 ∨ c.val < 48 ∨ (58 ≤ c.val ∧ c.val ≤ 64)) ∧ (0 ≤ digZ c.val → hexI (c.val ||| 32) = digZ c.val ∧ 48 ≤ c.val ∧ ¬ (58 ≤ c.val ∧ c.val ≤ 64)) := by decide +kernel
theorem or32_lt (c : Nat) (h : c < 256) : c ||| 32 < 256 := Nat.or_lt_two_pow (n := 8) h (by decide)
theorem i32_join4 (x d : Nat) (hx : x < 65536) (hd : d < 16) : bits .or .i32 ((x : Int) * 16) (d : Int) = ((16 * x + d : Nat) : Int) := by
  rw [bits_join .i32 31 (by decide) wraps_i32 4 ((x : Int) * 16) (d : Int) (by omega) (by omega) (by omega) (by omega) (by omega) (by omega)]
  omega
set_option maxRecDepth 100000 in
set_option maxHeartbeats 1500000 in
theorem unit_any (s : ByteArray) (low : Bool) (w : World) :
    Calls Tryd.prog 64 #[.string s, .bool low] w (UnitPost w (unitN (bt s) low 4 0 0)) := by
  generalize hR : unitN (bt s) low 4 0 0 = R
  have HR := Lib.hid hR
  clear hR
  go_enter Tryd.func64, Tryd.ntmps64
  go_wp2_with fail
  go_loopw [4, 5, 6, 7, 10] (fun _ _ _ v7 v10 wr => URel w s low R v7 v10 wr) (fun _ _ _ _ v10 _ => 4 - (intOf v10).toNat)
  case atStart => exact ⟨0, 4, 0, rfl, rfl, rfl, Nat.zero_le _, by decide, HR.out, Below.refl _ _⟩
  case round =>
    obtain ⟨i, f, x, rfl, rfl, hif, his, hx, hrun, hbel⟩ := hrel
    have HB := Lib.hid hbel
    have HRUN := Lib.hid hrun
    have HX := Lib.hid hx
    clear hrun hbel hx
    match f with
    | 0 =>
      obtain rfl : i = 4 := by omega
      have HQ : Hid ((x, 4, true) = R) := Lib.hid (by rw [← HRUN.out]; rfl)
      clear HRUN
      go_wp2_with fail
      go_ret3
      exact ⟨by rw [← HQ.out] <;> rfl, HB.out⟩
    | f + 1 =>
      have hin : (i : Int) < 4 := by omega
      have hi4 : i < 4 := by omega
      have hrun := HRUN.out
      rw [unitN] at hrun
      clear HRUN
      by_cases hlt : i < s.size
      · have hc := bt_lt hlt
        rw [bt_in hlt] at hrun hc
        have q0 : ((i : Int) == (s.size : Int)) = false := by rw [beq_eq_false_iff_ne]; omega
        have i0 : 0 ≤ (i : Int) := by omega
        have e1 := Lib.hid (IntWalk.i64_in ((i : Int) + 1) (by omega))
        have e1 := e1.out
        have hor : bits .or .u8 (s[i].toNat : Int) 32 = ((s[i].toNat ||| 32 : Nat) : Int) := u8_or_nat _ 32 hc (by decide)
        have HI := Lib.hid (fun wx => indexByte (s[i].toNat ||| 32) (or32_lt _ hc) wx)
        have hdf := dig_fact ⟨s[i].toNat, hc⟩
        have HW2 := Lib.hid (fun wx g hb => within_any (s[i].toNat) 58 64 g wx hb)
        simp only [] at hdf
        generalize hcc : s[i].toNat = c at *
        generalize c ||| 32 = cl at *
        by_cases hd : digZ c < 0
        · rw [if_pos hd] at hrun
          have HQ := Lib.hid hrun
          have h3 := hdf.1 hd
          clear hrun hdf hd
          generalize hexI cl = hx at *
          by_cases g1 : hx < 0
          · clear h3
            go_wp2_with fail
            refine (HI.out _).mono ?_
            rintro e w' ⟨rfl, hw⟩
            have hw := hw.symm
            subst hw
            go_wp2_with fail
            go_ret3
            exact ⟨by rw [← HQ.out] <;> rfl, HB.out⟩
          · have g2 : c < 48 ∨ (58 ≤ c ∧ c ≤ 64) := by omega
            clear h3
            by_cases g3 : c < 48
            · have g3' : (c : Int) < 48 := by omega
              clear g2 g3
              go_wp2_with fail
              refine (HI.out _).mono ?_
              rintro e w' ⟨rfl, hw⟩
              have hw := hw.symm
              subst hw
              go_wp2_with fail
              go_ret3
              exact ⟨by rw [← HQ.out] <;> rfl, HB.out⟩
            · have g3' : ¬ ((c : Int) < 48) := by omega
              rw [decide_eq_true (show 58 ≤ c ∧ c ≤ 64 by omega)] at HW2
              clear g2 g3
              go_wp2_with fail
              refine (HI.out _).mono ?_
              rintro e w' ⟨rfl, hw⟩
              have hw := hw.symm
              subst hw
              go_wp2_with fail
              refine (HW2.out _ wr.heap.size (Blk.new _ _ _)).mono ?_
              rintro e w' ⟨rfl, hw⟩
              have hw := hw.symm
              subst hw
              go_wp2_with fail
              go_ret3
              exact ⟨by rw [← HQ.out] <;> rfl, HB.out.alloc (HB.out.size) _⟩
        · rw [if_neg hd] at hrun
          obtain ⟨h1, h2, h3⟩ := hdf.2 (by omega)
          rw [h1] at HI
          have h48 : ¬ ((c : Int) < 48) := by omega
          rw [decide_eq_false h3] at HW2
          obtain ⟨d, hdd⟩ : ∃ d : Nat, digZ c = (d : Int) := ⟨(digZ c).toNat, by omega⟩
          have hdN : digN c = d := by unfold digN; omega
          have hd16 : d < 16 := by have := (digZ_range c).2; omega
          have hxl := xLim_next i x d hi4 HX.out hd16
          have hx6 := xLim_le i
          have hx6' : x < 65536 := by have := HX.out; omega
          rw [hdN] at hrun
          rw [hdd] at HI
          have J := Lib.hid (i32_join4 x d hx6' hd16)
          have y65 : 16 * x + d < 65536 := by have := xLim_le (i + 1); omega
          have w1 : Hid (wrap32 ((x : Int) * 16) = (x : Int) * 16) := Lib.hid (by unfold wrap32; omega)
          have w2 : Hid (wrap32 (d : Int) = (d : Int)) := Lib.hid (by unfold wrap32; omega)
          have d0 : ¬ ((d : Int) < 0) := by omega
          clear hdf hd h1 h2 h3 hdd hdN hx6 hx6' HX
          generalize hy : 16 * x + d = y at *
          have HXL := Lib.hid hxl
          clear hxl hy hd16
          have j1 := J.out
          have w1 := w1.out
          have w2 := w2.out
          have hi : i = 0 ∨ i = 1 ∨ 2 ≤ i := by omega
          rcases hi with hi | hi | hi
          · have b0 : ((i : Int) == 0) = true := by rw [beq_iff_eq]; omega
            have b1 : ((i : Int) == 1) = false := by rw [beq_eq_false_iff_ne]; omega
            cases low with
            | false =>
              have ho : offU false i y = false := decide_eq_false (by simp [hi])
              rw [if_neg (by rw [ho]; decide)] at hrun
              have HQ := Lib.hid hrun
              clear hrun ho hi
              go_wp2_with fail
              refine (HI.out _).mono ?_
              rintro e w' ⟨rfl, hw⟩
              have hw := hw.symm
              subst hw
              go_wp2_with fail
              refine (HW2.out _ wr.heap.size (Blk.new _ _ _)).mono ?_
              rintro e w' ⟨rfl, hw⟩
              have hw := hw.symm
              subst hw
              go_wp2_with fail
              go_roundw
              case rel => exact ⟨i + 1, f, y, rfl, by go_num, by omega, by omega, HXL.out, HQ.out, HB.out.alloc (HB.out.size) _⟩
              case measure => simp [intOf]; omega
            | true =>
              by_cases h13 : y = 13
              · have ho : offU true i y = false := decide_eq_false (by simp [hi, h13])
                rw [if_neg (by rw [ho]; decide)] at hrun
                have HQ := Lib.hid hrun
                have HY13 := Lib.hid h13
                have h13 : ((y : Int) == 13) = true := by rw [beq_iff_eq]; omega
                clear hrun ho hi
                go_wp2_with fail
                refine (HI.out _).mono ?_
                rintro e w' ⟨rfl, hw⟩
                have hw := hw.symm
                subst hw
                go_wp2_with fail
                refine (HW2.out _ wr.heap.size (Blk.new _ _ _)).mono ?_
                rintro e w' ⟨rfl, hw⟩
                have hw := hw.symm
                subst hw
                go_wp2_with fail
                go_roundw
                case rel => exact ⟨i + 1, f, y, by rw [HY13.out] <;> rfl, by go_num, by omega, by omega, HXL.out, HQ.out, HB.out.alloc (HB.out.size) _⟩
                case measure => simp [intOf]; omega
              · have ho : offU true i y = true := decide_eq_true (by simp [hi, h13])
                rw [if_pos ho] at hrun
                have HQ := Lib.hid hrun
                have h13 : ((y : Int) == 13) = false := by rw [beq_eq_false_iff_ne]; omega
                clear hrun ho hi
                go_wp2_with fail
                refine (HI.out _).mono ?_
                rintro e w' ⟨rfl, hw⟩
                have hw := hw.symm
                subst hw
                go_wp2_with fail
                refine (HW2.out _ wr.heap.size (Blk.new _ _ _)).mono ?_
                rintro e w' ⟨rfl, hw⟩
                have hw := hw.symm
                subst hw
                go_wp2_with fail
                go_ret3
                exact ⟨by rw [← HQ.out] <;> rfl, HB.out.alloc (HB.out.size) _⟩
          · have b0 : ((i : Int) == 0) = false := by rw [beq_eq_false_iff_ne]; omega
            have b1 : ((i : Int) == 1) = true := by rw [beq_iff_eq]; omega
            by_cases hin2 : 220 ≤ y ∧ y ≤ 223
            · cases low with
              | false =>
                have ho : offU false i y = true := decide_eq_true (.inr ⟨hi, ⟨fun k => (by cases k), fun k => absurd hin2 k⟩⟩)
                rw [if_pos ho] at hrun
                have HQ := Lib.hid hrun
                have hsr : ((y : Int) / 4 == 55) = true := by rw [beq_iff_eq]; omega
                clear hrun ho hi
                go_wp2_with fail
                refine (HI.out _).mono ?_
                rintro e w' ⟨rfl, hw⟩
                have hw := hw.symm
                subst hw
                go_wp2_with fail
                refine (HW2.out _ wr.heap.size (Blk.new _ _ _)).mono ?_
                rintro e w' ⟨rfl, hw⟩
                have hw := hw.symm
                subst hw
                go_wp2_with fail
                go_ret3
                exact ⟨by rw [← HQ.out] <;> rfl, HB.out.alloc (HB.out.size) _⟩
              | true =>
                have ho : offU true i y = false := decide_eq_false (fun k => by rcases k with ⟨k, -⟩ | ⟨-, k⟩; omega; exact (k.1 rfl) hin2)
                rw [if_neg (by rw [ho]; decide)] at hrun
                have HQ := Lib.hid hrun
                have hsr : ((y : Int) / 4 == 55) = true := by rw [beq_iff_eq]; omega
                clear hrun ho hi
                go_wp2_with fail
                refine (HI.out _).mono ?_
                rintro e w' ⟨rfl, hw⟩
                have hw := hw.symm
                subst hw
                go_wp2_with fail
                refine (HW2.out _ wr.heap.size (Blk.new _ _ _)).mono ?_
                rintro e w' ⟨rfl, hw⟩
                have hw := hw.symm
                subst hw
                go_wp2_with fail
                go_roundw
                case rel => exact ⟨i + 1, f, y, rfl, by go_num, by omega, by omega, HXL.out, HQ.out, HB.out.alloc (HB.out.size) _⟩
                case measure => simp [intOf]; omega
            · cases low with
              | false =>
                have ho : offU false i y = false := decide_eq_false (fun k => by rcases k with ⟨k, -⟩ | ⟨-, k⟩; omega; exact absurd (k.2 hin2) (by decide))
                rw [if_neg (by rw [ho]; decide)] at hrun
                have HQ := Lib.hid hrun
                have hsr : ((y : Int) / 4 == 55) = false := by rw [beq_eq_false_iff_ne]; omega
                clear hrun ho hi
                go_wp2_with fail
                refine (HI.out _).mono ?_
                rintro e w' ⟨rfl, hw⟩
                have hw := hw.symm
                subst hw
                go_wp2_with fail
                refine (HW2.out _ wr.heap.size (Blk.new _ _ _)).mono ?_
                rintro e w' ⟨rfl, hw⟩
                have hw := hw.symm
                subst hw
                go_wp2_with fail
                go_roundw
                case rel => exact ⟨i + 1, f, y, rfl, by go_num, by omega, by omega, HXL.out, HQ.out, HB.out.alloc (HB.out.size) _⟩
                case measure => simp [intOf]; omega
              | true =>
                have ho : offU true i y = true := decide_eq_true (.inr ⟨hi, ⟨fun _ => hin2, fun _ => rfl⟩⟩)
                rw [if_pos ho] at hrun
                have HQ := Lib.hid hrun
                have hsr : ((y : Int) / 4 == 55) = false := by rw [beq_eq_false_iff_ne]; omega
                clear hrun ho hi
                go_wp2_with fail
                refine (HI.out _).mono ?_
                rintro e w' ⟨rfl, hw⟩
                have hw := hw.symm
                subst hw
                go_wp2_with fail
                refine (HW2.out _ wr.heap.size (Blk.new _ _ _)).mono ?_
                rintro e w' ⟨rfl, hw⟩
                have hw := hw.symm
                subst hw
                go_wp2_with fail
                go_ret3
                exact ⟨by rw [← HQ.out] <;> rfl, HB.out.alloc (HB.out.size) _⟩
          · have ho : offU low i y = false := decide_eq_false (by omega)
            rw [if_neg (by rw [ho]; decide)] at hrun
            have HQ := Lib.hid hrun
            have b0 : ((i : Int) == 0) = false := by rw [beq_eq_false_iff_ne]; omega
            have b1 : ((i : Int) == 1) = false := by rw [beq_eq_false_iff_ne]; omega
            clear hrun ho hi
            go_wp2_with fail
            refine (HI.out _).mono ?_
            rintro e w' ⟨rfl, hw⟩
            have hw := hw.symm
            subst hw
            go_wp2_with fail
            refine (HW2.out _ wr.heap.size (Blk.new _ _ _)).mono ?_
            rintro e w' ⟨rfl, hw⟩
            have hw := hw.symm
            subst hw
            go_wp2_with fail
            go_roundw
            case rel => exact ⟨i + 1, f, y, rfl, by go_num, by omega, by omega, HXL.out, HQ.out, HB.out.alloc (HB.out.size) _⟩
            case measure => simp [intOf]; omega
      · obtain rfl : i = s.size := by omega
        rw [if_pos (by rw [bt_out (Nat.le_refl _)]; decide)] at hrun
        have HQ := Lib.hid hrun
        clear hrun
        go_wp2_with fail
        go_ret3
        exact ⟨by rw [← HQ.out] <;> rfl, HB.out⟩
end
end Go.Proofs.YtjfeebbhkolmoaaDoor.E
