/- Contract of escape.unit. -/
import Derived.Test.YtiignmjglihbnaaDoorWithin
import Derived.Test.YtiignmjglihbnaaDoorFirst
import Derived.OwnWalk
namespace Go.Proofs.YtiignmjglihbnaaDoor
open Go.RowKit
set_option linter.unusedVariables false

def digN (c : Nat) : Nat := (digZ c).toNat
/-- is a number of a code unit, of which so many digits stood, no beginning of one that is due? -/
def offU (low : Bool) (i x : Nat) : Bool := decide ((i = 0 ∧ low = true ∧ x ≠ 13) ∨ (i = 1 ∧ (low = true ↔ ¬ (220 ≤ x ∧ x ≤ 223))))
def unitN (b : Nat → Nat) (low : Bool) : Nat → Nat → Nat → Nat × Nat × Bool
  | 0, i, x => (x, i, true)
  | f + 1, i, x => if digZ (b i) < 0 then (0, i, false) else if offU low i (16 * x + digN (b i)) = true then (0, i, false) else unitN b low f (i + 1) (16 * x + digN (b i))
def UnitPost (w : World) (r : Nat × Nat × Bool) (e : Ending) (w' : World) : Prop := e = .returned (.tuple #[.int .i32 r.1, .int .i64 r.2.1, .bool r.2.2]) ∧ Below w.heap.size w w'
def xLim (i : Nat) : Nat := if i = 0 then 1 else if i = 1 then 16 else if i = 2 then 256 else if i = 3 then 4096 else 65536
theorem xLim_le (i : Nat) : xLim i ≤ 65536 := by 
  unfold xLim
  split
  · omega
  split
  · omega
  split
  · omega
  split <;> omega
theorem xLim_next (i x d : Nat) (hi : i < 4) (hx : x < xLim i) (hd : d < 16) : 16 * x + d < xLim (i + 1) := by
  unfold xLim at *
  have : i = 0 ∨ i = 1 ∨ i = 2 ∨ i = 3 := by omega
  rcases this with rfl | rfl | rfl | rfl <;> simp at * <;> omega
def URel (w : World) (s : ByteArray) (low : Bool) (R : Nat × Nat × Bool) (v7 v10 : Value) (wr : World) : Prop :=
  ∃ i f x : Nat, v7 = .int .i32 x ∧ v10 = .int .i64 i ∧ i + f = 4 ∧ i ≤ s.size ∧ x < xLim i ∧ unitN (bt s) low f i x = R ∧ Below w.heap.size w wr
theorem dig_fact : ∀ c : Fin 256, (digZ c.val < 0 → hexI (c.val ||| 32) < 0 ∨ c.val < 48 ∨ (58 ≤ c.val ∧ c.val ≤ 64)) ∧ (0 ≤ digZ c.val → hexI (c.val ||| 32) = digZ c.val ∧ 48 ≤ c.val ∧ ¬ (58 ≤ c.val ∧ c.val ≤ 64)) := by decide +kernel
theorem or32_lt (c : Nat) (h : c < 256) : c ||| 32 < 256 := Nat.or_lt_two_pow (n := 8) h (by decide)
theorem i32_join4 (x d : Nat) (hx : x < 65536) (hd : d < 16) : bits .or .i32 ((x : Int) * 16) (d : Int) = ((16 * x + d : Nat) : Int) := by
  rw [bits_join .i32 31 (by decide) wraps_i32 4 ((x : Int) * 16) (d : Int) (by omega) (by omega) (by omega) (by omega) (by omega) (by omega)]
  omega

set_option maxRecDepth 100000 in
set_option maxHeartbeats 1500000 in
theorem unit_any (s : ByteArray) (low : Bool) (w : World) :
    Calls Tryd.prog 34 #[.string s, .bool low] w (UnitPost w (unitN (bt s) low 4 0 0)) := by
  generalize hR : unitN (bt s) low 4 0 0 = R
  have HR := Lib.hid hR
  clear hR
  go_enter Tryd.func34, Tryd.ntmps34
  go_wp2_with fail
  go_loopw [4, 5, 6, 7, 10] (fun _ _ _ v7 v10 wr => URel w s low R v7 v10 wr) (fun _ _ _ _ v10 _ => 4 - (intOf v10).toNat)
  case atStart => exact ⟨0, 4, 0, rfl, rfl, rfl, Nat.zero_le _, by decide, HR.out, Below.refl _ _⟩
  case round =>
    obtain ⟨i, f, x, rfl, rfl, hif, his, hx, hrun, hbel⟩ := hrel
    have HB := Lib.hid hbel
    have HRUN := Lib.hid hrun
    have HX := Lib.hid hx
    clear hrun hbel hx
    match f with
    | 0 =>
      obtain rfl : i = 4 := by omega
      have HQ : Hid ((x, 4, true) = R) := Lib.hid (by rw [← HRUN.out]; rfl)
      clear HRUN
      go_wp2_with fail
      go_ret3
      exact ⟨by rw [← HQ.out] <;> rfl, HB.out⟩
    | f + 1 =>
      have hin : (i : Int) < 4 := by omega
      have hi4 : i < 4 := by omega
      have hrun := HRUN.out
      rw [unitN] at hrun
      clear HRUN
      by_cases hlt : i < s.size
      · have hc := bt_lt hlt
        rw [bt_in hlt] at hrun hc
        have q0 : ((i : Int) == (s.size : Int)) = false := by rw [beq_eq_false_iff_ne]; omega
        have i0 : 0 ≤ (i : Int) := by omega
        have e1 := Lib.hid (IntWalk.i64_in ((i : Int) + 1) (by omega))
        have e1 := e1.out
        have hor : bits .or .u8 (s[i].toNat : Int) 32 = ((s[i].toNat ||| 32 : Nat) : Int) := u8_or_nat _ 32 hc (by decide)
        have HI := Lib.hid (fun wx => indexByte (s[i].toNat ||| 32) (or32_lt _ hc) wx)
        have hdf := dig_fact ⟨s[i].toNat, hc⟩
        have HW2 := Lib.hid (fun wx g hb => within_any (s[i].toNat) 58 64 g wx hb)
        simp only [] at hdf
        generalize hcc : s[i].toNat = c at *
        generalize c ||| 32 = cl at *
        by_cases hd : digZ c < 0
        · rw [if_pos hd] at hrun
          have HQ := Lib.hid hrun
          have h3 := hdf.1 hd
          clear hrun hdf hd
          generalize hexI cl = hx at *
          by_cases g1 : hx < 0
          · clear h3
            go_wp2_with fail
            refine (HI.out _).mono ?_
            rintro e w' ⟨rfl, hw⟩
            have hw := hw.symm
            subst hw
            go_wp2_with fail
            go_ret3
            exact ⟨by rw [← HQ.out] <;> rfl, HB.out⟩
          · have g2 : c < 48 ∨ (58 ≤ c ∧ c ≤ 64) := by omega
            clear h3
            by_cases g3 : c < 48
            · have g3' : (c : Int) < 48 := by omega
              clear g2 g3
              go_wp2_with fail
              refine (HI.out _).mono ?_
              rintro e w' ⟨rfl, hw⟩
              have hw := hw.symm
              subst hw
              go_wp2_with fail
              go_ret3
              exact ⟨by rw [← HQ.out] <;> rfl, HB.out⟩
            · have g3' : ¬ ((c : Int) < 48) := by omega
              rw [decide_eq_true (show 58 ≤ c ∧ c ≤ 64 by omega)] at HW2
              clear g2 g3
              go_wp2_with fail
              refine (HI.out _).mono ?_
              rintro e w' ⟨rfl, hw⟩
              have hw := hw.symm
              subst hw
              go_wp2_with fail
              refine (HW2.out _ wr.heap.size (Blk.new _ _ _)).mono ?_
              rintro e w' ⟨rfl, hw⟩
              have hw := hw.symm
              subst hw
              go_wp2_with fail
              go_ret3
              exact ⟨by rw [← HQ.out] <;> rfl, HB.out.alloc (HB.out.size) _⟩
        · rw [if_neg hd] at hrun
          obtain ⟨h1, h2, h3⟩ := hdf.2 (by omega)
          rw [h1] at HI
          have h48 : ¬ ((c : Int) < 48) := by omega
          rw [decide_eq_false h3] at HW2
          obtain ⟨d, hdd⟩ : ∃ d : Nat, digZ c = (d : Int) := ⟨(digZ c).toNat, by omega⟩
          have hdN : digN c = d := by unfold digN; omega
          have hd16 : d < 16 := by have := (digZ_range c).2; omega
          have hxl := xLim_next i x d hi4 HX.out hd16
          have hx6 := xLim_le i
          have hx6' : x < 65536 := by have := HX.out; omega
          rw [hdN] at hrun
          rw [hdd] at HI
          have J := Lib.hid (i32_join4 x d hx6' hd16)
          have y65 : 16 * x + d < 65536 := by have := xLim_le (i + 1); omega
          have w1 : Hid (wrap32 ((x : Int) * 16) = (x : Int) * 16) := Lib.hid (by unfold wrap32; omega)
          have w2 : Hid (wrap32 (d : Int) = (d : Int)) := Lib.hid (by unfold wrap32; omega)
          have d0 : ¬ ((d : Int) < 0) := by omega
          clear hdf hd h1 h2 h3 hdd hdN hx6 hx6' HX
          generalize hy : 16 * x + d = y at *
          have HXL := Lib.hid hxl
          clear hxl hy hd16
          have j1 := J.out
          have w1 := w1.out
          have w2 := w2.out
          have hi : i = 0 ∨ i = 1 ∨ 2 ≤ i := by omega
          rcases hi with hi | hi | hi
          · have b0 : ((i : Int) == 0) = true := by rw [beq_iff_eq]; omega
            have b1 : ((i : Int) == 1) = false := by rw [beq_eq_false_iff_ne]; omega
            cases low with
            | false =>
              have ho : offU false i y = false := decide_eq_false (by simp [hi])
              rw [if_neg (by rw [ho]; decide)] at hrun
              have HQ := Lib.hid hrun
              clear hrun ho hi
              go_wp2_with fail
              refine (HI.out _).mono ?_
              rintro e w' ⟨rfl, hw⟩
              have hw := hw.symm
              subst hw
              go_wp2_with fail
              refine (HW2.out _ wr.heap.size (Blk.new _ _ _)).mono ?_
              rintro e w' ⟨rfl, hw⟩
              have hw := hw.symm
              subst hw
              go_wp2_with fail
              go_roundw
              case rel => exact ⟨i + 1, f, y, rfl, by go_num, by omega, by omega, HXL.out, HQ.out, HB.out.alloc (HB.out.size) _⟩
              case measure => simp [intOf]; omega
            | true =>
              by_cases h13 : y = 13
              · have ho : offU true i y = false := decide_eq_false (by simp [hi, h13])
                rw [if_neg (by rw [ho]; decide)] at hrun
                have HQ := Lib.hid hrun
                have HY13 := Lib.hid h13
                have h13 : ((y : Int) == 13) = true := by rw [beq_iff_eq]; omega
                clear hrun ho hi
                go_wp2_with fail
                refine (HI.out _).mono ?_
                rintro e w' ⟨rfl, hw⟩
                have hw := hw.symm
                subst hw
                go_wp2_with fail
                refine (HW2.out _ wr.heap.size (Blk.new _ _ _)).mono ?_
                rintro e w' ⟨rfl, hw⟩
                have hw := hw.symm
                subst hw
                go_wp2_with fail
                go_roundw
                case rel => exact ⟨i + 1, f, y, by rw [HY13.out] <;> rfl, by go_num, by omega, by omega, HXL.out, HQ.out, HB.out.alloc (HB.out.size) _⟩
                case measure => simp [intOf]; omega
              · have ho : offU true i y = true := decide_eq_true (by simp [hi, h13])
                rw [if_pos ho] at hrun
                have HQ := Lib.hid hrun
                have h13 : ((y : Int) == 13) = false := by rw [beq_eq_false_iff_ne]; omega
                clear hrun ho hi
                go_wp2_with fail
                refine (HI.out _).mono ?_
                rintro e w' ⟨rfl, hw⟩
                have hw := hw.symm
                subst hw
                go_wp2_with fail
                refine (HW2.out _ wr.heap.size (Blk.new _ _ _)).mono ?_
                rintro e w' ⟨rfl, hw⟩
                have hw := hw.symm
                subst hw
                go_wp2_with fail
                go_ret3
                exact ⟨by rw [← HQ.out] <;> rfl, HB.out.alloc (HB.out.size) _⟩
          · have b0 : ((i : Int) == 0) = false := by rw [beq_eq_false_iff_ne]; omega
            have b1 : ((i : Int) == 1) = true := by rw [beq_iff_eq]; omega
            by_cases hin2 : 220 ≤ y ∧ y ≤ 223
            · cases low with
              | false =>
                have ho : offU false i y = true := decide_eq_true (.inr ⟨hi, ⟨fun k => (by cases k), fun k => absurd hin2 k⟩⟩)
                rw [if_pos ho] at hrun
                have HQ := Lib.hid hrun
                have hsr : ((y : Int) / 4 == 55) = true := by rw [beq_iff_eq]; omega
                clear hrun ho hi
                go_wp2_with fail
                refine (HI.out _).mono ?_
                rintro e w' ⟨rfl, hw⟩
                have hw := hw.symm
                subst hw
                go_wp2_with fail
                refine (HW2.out _ wr.heap.size (Blk.new _ _ _)).mono ?_
                rintro e w' ⟨rfl, hw⟩
                have hw := hw.symm
                subst hw
                go_wp2_with fail
                go_ret3
                exact ⟨by rw [← HQ.out] <;> rfl, HB.out.alloc (HB.out.size) _⟩
              | true =>
                have ho : offU true i y = false := decide_eq_false (fun k => by rcases k with ⟨k, -⟩ | ⟨-, k⟩; omega; exact (k.1 rfl) hin2)
                rw [if_neg (by rw [ho]; decide)] at hrun
                have HQ := Lib.hid hrun
                have hsr : ((y : Int) / 4 == 55) = true := by rw [beq_iff_eq]; omega
                clear hrun ho hi
                go_wp2_with fail
                refine (HI.out _).mono ?_
                rintro e w' ⟨rfl, hw⟩
                have hw := hw.symm
                subst hw
                go_wp2_with fail
                refine (HW2.out _ wr.heap.size (Blk.new _ _ _)).mono ?_
                rintro e w' ⟨rfl, hw⟩
                have hw := hw.symm
                subst hw
                go_wp2_with fail
                go_roundw
                case rel => exact ⟨i + 1, f, y, rfl, by go_num, by omega, by omega, HXL.out, HQ.out, HB.out.alloc (HB.out.size) _⟩
                case measure => simp [intOf]; omega
            · cases low with
              | false =>
                have ho : offU false i y = false := decide_eq_false (fun k => by rcases k with ⟨k, -⟩ | ⟨-, k⟩; omega; exact absurd (k.2 hin2) (by decide))
                rw [if_neg (by rw [ho]; decide)] at hrun
                have HQ := Lib.hid hrun
                have hsr : ((y : Int) / 4 == 55) = false := by rw [beq_eq_false_iff_ne]; omega
                clear hrun ho hi
                go_wp2_with fail
                refine (HI.out _).mono ?_
                rintro e w' ⟨rfl, hw⟩
                have hw := hw.symm
                subst hw
                go_wp2_with fail
                refine (HW2.out _ wr.heap.size (Blk.new _ _ _)).mono ?_
                rintro e w' ⟨rfl, hw⟩
                have hw := hw.symm
                subst hw
                go_wp2_with fail
                go_roundw
                case rel => exact ⟨i + 1, f, y, rfl, by go_num, by omega, by omega, HXL.out, HQ.out, HB.out.alloc (HB.out.size) _⟩
                case measure => simp [intOf]; omega
              | true =>
                have ho : offU true i y = true := decide_eq_true (.inr ⟨hi, ⟨fun _ => hin2, fun _ => rfl⟩⟩)
                rw [if_pos ho] at hrun
                have HQ := Lib.hid hrun
                have hsr : ((y : Int) / 4 == 55) = false := by rw [beq_eq_false_iff_ne]; omega
                clear hrun ho hi
                go_wp2_with fail
                refine (HI.out _).mono ?_
                rintro e w' ⟨rfl, hw⟩
                have hw := hw.symm
                subst hw
                go_wp2_with fail
                refine (HW2.out _ wr.heap.size (Blk.new _ _ _)).mono ?_
                rintro e w' ⟨rfl, hw⟩
                have hw := hw.symm
                subst hw
                go_wp2_with fail
                go_ret3
                exact ⟨by rw [← HQ.out] <;> rfl, HB.out.alloc (HB.out.size) _⟩
          · have ho : offU low i y = false := decide_eq_false (by omega)
            rw [if_neg (by rw [ho]; decide)] at hrun
            have HQ := Lib.hid hrun
            have b0 : ((i : Int) == 0) = false := by rw [beq_eq_false_iff_ne]; omega
            have b1 : ((i : Int) == 1) = false := by rw [beq_eq_false_iff_ne]; omega
            clear hrun ho hi
            go_wp2_with fail
            refine (HI.out _).mono ?_
            rintro e w' ⟨rfl, hw⟩
            have hw := hw.symm
            subst hw
            go_wp2_with fail
            refine (HW2.out _ wr.heap.size (Blk.new _ _ _)).mono ?_
            rintro e w' ⟨rfl, hw⟩
            have hw := hw.symm
            subst hw
            go_wp2_with fail
            go_roundw
            case rel => exact ⟨i + 1, f, y, rfl, by go_num, by omega, by omega, HXL.out, HQ.out, HB.out.alloc (HB.out.size) _⟩
            case measure => simp [intOf]; omega
      · obtain rfl : i = s.size := by omega
        rw [if_pos (by rw [bt_out (Nat.le_refl _)]; decide)] at hrun
        have HQ := Lib.hid hrun
        clear hrun
        go_wp2_with fail
        go_ret3
        exact ⟨by rw [← HQ.out] <;> rfl, HB.out⟩
end Go.Proofs.YtiignmjglihbnaaDoor
