/- cruciblelaw10.EscapeWithin: true. -/
import Derived.Test.YtiignmjglihbnaaDoorLives10
namespace Go.Proofs.YtiignmjglihbnaaDoor
open Go.RowKit
set_option linter.unusedVariables false

/-- what stands around a literal makes no difference -/
theorem scanG_within (b b' : Nat → Nat) (sz sz' d : Nat) (hb : ∀ i, i < sz → b' (d + i) = b i) (hsz : d + sz ≤ sz') : ∀ (f i : Nat) (st : St), i + f = sz →
    (∀ t n, scanG b f i st = .ok (t, n) → scanG b' (sz' - (d + i)) (d + i) st = .ok (t, n + d)) ∧
    (∀ k, scanG b f i st = .error k → k ≤ sz ∧ (k < sz → scanG b' (sz' - (d + i)) (d + i) st = .error (k + d))) := by
  intro f
  induction f with
  | zero =>
    intro i st hi
    refine ⟨fun t n h => (by cases h), fun k h => ?_⟩
    have h : Except.error i = Except.error k := h
    injection h with h
    omega
  | succ f ih =>
    intro i st hi
    have hlt : d + i < sz' := by omega
    obtain ⟨r, hr⟩ : ∃ r, sz' - (d + i) = r + 1 := ⟨sz' - (d + i) - 1, by omega⟩
    have hr2 : sz' - (d + (i + 1)) = r := by omega
    have h' := ih (i + 1) (stepF st (b i)).1 (by omega)
    rw [hr2] at h'
    rw [hr, scanG, scanG, hb i (by omega)]
    by_cases h1 : (stepF st (b i)).2 = false
    · rw [if_pos h1, if_pos h1]
      refine ⟨fun t n h => (by cases h), fun k h => ?_⟩
      injection h with h
      subst h
      exact ⟨by omega, fun _ => by rw [Nat.add_comm]⟩
    · rw [if_neg h1, if_neg h1]
      by_cases h2 : (stepF st (b i)).1.mode = 7
      · rw [if_pos h2, if_pos h2]
        refine ⟨fun t n h => ?_, fun k h => by cases h⟩
        injection h with h
        injection h with h3 h4
        subst h3 h4
        rw [show d + i + 1 = i + 1 + d by omega]
      · rw [if_neg h2, if_neg h2, show d + i + 1 = d + (i + 1) by omega]
        exact h'

theorem scanG_le (b : Nat → Nat) : ∀ (f i : Nat) (st : St) (t : List Nat) (n : Nat), scanG b f i st = .ok (t, n) → n ≤ i + f := by
  intro f
  induction f with
  | zero => intro i st t n h; cases h
  | succ f ih =>
    intro i st t n h
    rw [scanG] at h
    by_cases h1 : (stepF st (b i)).2 = false
    · rw [if_pos h1] at h; cases h
    · rw [if_neg h1] at h
      by_cases h2 : (stepF st (b i)).1.mode = 7
      · rw [if_pos h2] at h; injection h with h; injection h with h3 h4; omega
      · rw [if_neg h2] at h; have := ih _ _ _ _ h; omega
theorem scanQ_le (s : ByteArray) (t : List Nat) (n : Nat) (h : scanQ s 0 = .ok (t, n)) : n ≤ s.size := by
  rw [← scan_law s 0 (Nat.zero_le _)] at h
  have := scanG_le (bt s) _ _ _ _ _ h
  omega
theorem bt_app (x y z : ByteArray) (i : Nat) (h : i < y.size) : bt (x ++ y ++ z) (x.size + i) = bt y i := by
  have h1 : (x ++ y ++ z).size = x.size + y.size + z.size := by simp
  rw [bt_in (s := x ++ y ++ z) (i := x.size + i) (by omega), bt_in h]
  rw [ByteArray.getElem_append_left (by simp; omega), ByteArray.getElem_append_right (by omega)]
  simp

theorem within_law (x y z : ByteArray) : (∀ t n, scanQ y 0 = .ok (t, n) → scanQ (x ++ y ++ z) x.size = .ok (t, n + x.size)) ∧ (∀ k, scanQ y 0 = .error k → k ≤ y.size ∧ (k < y.size → scanQ (x ++ y ++ z) x.size = .error (k + x.size))) := by
  have h1 : (x ++ y ++ z).size = x.size + y.size + z.size := by simp
  rw [← scan_law y 0 (Nat.zero_le _), ← scan_law (x ++ y ++ z) x.size (by omega)]
  unfold scanAt
  have h := scanG_within (bt y) (bt (x ++ y ++ z)) y.size (x ++ y ++ z).size x.size (fun i hi => bt_app x y z i hi) (by omega) y.size 0 StZ (by omega)
  rw [Nat.sub_zero]
  exact h

set_option maxRecDepth 100000 in
set_option maxHeartbeats 1500000 in
theorem wwithin (x y z : ByteArray) (hx : x.size ≤ 140737488351232) (hy : y.size ≤ 140737488351232) (hz : z.size ≤ 140737488351232) (a : Nat → Addr) (w : World) (he : Errs w a) (hsh : Shorts w) :
    Calls Tryd.prog 8 #[.string x, .string y, .string z] w fun e w' => e = .returned (.bool true) ∧ Below w.heap.size w w' := by
  have h1 : (x ++ y ++ z).size = x.size + y.size + z.size := by simp
  have HL := Lib.hid (lives_any a w he hsh)
  have HS1 := Lib.hid (fun wx (hb : Below w.heap.size w wx) => scan_at y (by omega) 0 (Nat.zero_le _) a wx (he.below hb) (hsh.below hb))
  have HE := Lib.hid he
  have hlaw := within_law x y z
  by_cases hbig : 16777216 < x.size + y.size + z.size
  · have e1 := Lib.hid (IntWalk.i64_in ((x.size : Int) + (y.size : Int)) (by omega))
    have e2 := Lib.hid (IntWalk.i64_in ((x.size : Int) + (y.size : Int) + (z.size : Int)) (by omega))
    have e1 := e1.out
    have e2 := e2.out
    have e3 : (16777216 : Int) < (x.size : Int) + (y.size : Int) + (z.size : Int) := by omega
    clear he hsh hx hy hz hlaw h1 hbig
    go_enter Tryd.func8, Tryd.ntmps8
    go_wp2_with fail
    refine HL.out.mono ?_
    rintro e w1 ⟨rfl, hb1⟩
    have HB1 := Lib.hid hb1
    clear hb1
    go_wp2_with fail
    go_ret
    exact ⟨rfl, HB1.out⟩
  have e1 := Lib.hid (IntWalk.i64_in ((x.size : Int) + (y.size : Int)) (by omega))
  have e2 := Lib.hid (IntWalk.i64_in ((x.size : Int) + (y.size : Int) + (z.size : Int)) (by omega))
  have e1 := e1.out
  have e2 := e2.out
  have e3 : ¬ ((16777216 : Int) < (x.size : Int) + (y.size : Int) + (z.size : Int)) := by omega
  have HS2 := Lib.hid (fun wx (hb : Below w.heap.size w wx) => scan_at (x ++ y ++ z) (by omega) x.size (by omega) a wx (he.below hb) (hsh.below hb))
  unfold ScanPost at HS1 HS2
  cases hR : scanQ y 0 with
  | ok tn =>
    obtain ⟨t, n⟩ := tn
    have hn := scanQ_le y t n hR
    have e4 := Lib.hid (IntWalk.i64_in ((n : Int) + (x.size : Int)) (by omega))
    have e4 := e4.out
    clear hn
    rw [hR] at HS1
    rw [hlaw.1 t n hR] at HS2
    simp only [] at HS1 HS2
    generalize strOf t = T at *
    clear he hsh hx hy hz hlaw h1 hbig hR
    go_enter Tryd.func8, Tryd.ntmps8
    go_wp2_with fail
    refine HL.out.mono ?_
    rintro e w1 ⟨rfl, hb1⟩
    have HB1 := Lib.hid hb1
    clear hb1
    go_wp2_with fail
    refine (HS1.out w1 HB1.out).mono ?_
    rintro e w2 ⟨hb2, rfl⟩
    have HB2 : Hid (Below w.heap.size w w2) := Lib.hid (HB1.out.trans (hb2.mono HB1.out.size))
    clear hb2
    go_wp2_with fail
    refine (HS2.out w2 HB2.out).mono ?_
    rintro e w3 ⟨hb3, rfl⟩
    have HB3 : Hid (Below w.heap.size w w3) := Lib.hid (HB2.out.trans (hb3.mono HB2.out.size))
    clear hb3
    go_wp2_with fail
    go_ret
    exact ⟨by first | rfl | simp, HB3.out⟩
  | error k =>
    rw [hR] at HS1
    obtain ⟨hk, hk2⟩ := hlaw.2 k hR
    have HK := Lib.hid hk
    simp only [] at HS1
    by_cases hkl : k < y.size
    · rw [hk2 hkl] at HS2
      simp only [] at HS2
      have z1 : ((k : Int) == (y.size : Int)) = false := by rw [beq_eq_false_iff_ne]; omega
      have e4 := Lib.hid (IntWalk.i64_in ((k : Int) + (x.size : Int)) (by omega))
      have e4 := e4.out
      clear he hsh hx hy hz hlaw h1 hbig hR hk hk2 hkl
      go_enter Tryd.func8, Tryd.ntmps8
      go_wp2_with fail
      refine HL.out.mono ?_
      rintro e w1 ⟨rfl, hb1⟩
      have HB1 := Lib.hid hb1
      clear hb1
      go_wp2_with fail
      refine (HS1.out w1 HB1.out).mono ?_
      rintro e w2 ⟨hb2, g, rfl, hf2⟩
      have HB2 : Hid (Below w.heap.size w w2) := Lib.hid (HB1.out.trans (hb2.mono HB1.out.size))
      have HF2 := Lib.hid hf2
      clear hb2 hf2
      go_wp2_with fail
      refine (HS2.out w2 HB2.out).mono ?_
      rintro e w3 ⟨hb3, g2, rfl, hg3⟩
      have HB3 : Hid (Below w.heap.size w w3) := Lib.hid (HB2.out.trans (hb3.mono HB2.out.size))
      have HF3 : Hid (FaultB w3 g (a 2) k) := Lib.hid (Blk.below HF2.out hb3 (Blk.lt HF2.out))
      have HG3 := Lib.hid hg3
      clear hg3
      have IA := Lib.hid (at_fault g k a w3 (HE.out.below HB3.out) HF3.out)
      clear hb3
      go_wp2_with fail
      refine IA.out.mono ?_
      rintro e w4 ⟨rfl, hb4⟩
      have HB4 : Hid (Below w.heap.size w w4) := Lib.hid (HB3.out.trans (hb4.mono HB3.out.size))
      have HF4 : Hid (FaultB w4 g (a 2) k) := Lib.hid (Blk.below HF3.out hb4 (Blk.lt HF3.out))
      have HG4 : Hid (FaultB w4 g2 (a 2) ((k + x.size : Nat) : Int)) := Lib.hid (Blk.below HG3.out hb4 (Blk.lt HG3.out))
      have IC := Lib.hid (code_fault g k a w4 (HE.out.below HB4.out) HF4.out)
      clear hb4 IA
      go_wp2_with fail
      refine IC.out.mono ?_
      rintro e w5 ⟨rfl, hb5⟩
      have HB5 : Hid (Below w.heap.size w w5) := Lib.hid (HB4.out.trans (hb5.mono HB4.out.size))
      have HG5 : Hid (FaultB w5 g2 (a 2) ((k + x.size : Nat) : Int)) := Lib.hid (Blk.below HG4.out hb5 (Blk.lt HG4.out))
      clear hb5 IC
      go_wp2_with fail
      have IF := Lib.hid (isAt_fault g2 ((k + x.size : Nat) : Int) a w5 (HE.out.below HB5.out) HG5.out ((k + x.size : Nat) : Int))
      rw [beq_self_eq_true, show (((k + x.size : Nat)) : Int) = (k : Int) + (x.size : Int) from by omega] at IF
      refine IF.out.mono ?_
      rintro e w6 ⟨rfl, hb6⟩
      have HB6 : Hid (Below w.heap.size w w6) := Lib.hid (HB5.out.trans (hb6.mono HB5.out.size))
      clear hb6 IF
      go_wp2_with fail
      go_ret
      exact ⟨by first | rfl | simp, HB6.out⟩
    · obtain rfl : k = y.size := by omega
      cases hR2 : scanQ (x ++ y ++ z) x.size with
      | ok tn =>
        obtain ⟨t2, n2⟩ := tn
        rw [hR2] at HS2
        simp only [] at HS2
        generalize strOf t2 = T2 at *
        clear he hsh hx hy hz hlaw h1 hbig hR hk hk2 hkl hR2
        go_enter Tryd.func8, Tryd.ntmps8
        go_wp2_with fail
        refine HL.out.mono ?_
        rintro e w1 ⟨rfl, hb1⟩
        have HB1 := Lib.hid hb1
        clear hb1
        go_wp2_with fail
        refine (HS1.out w1 HB1.out).mono ?_
        rintro e w2 ⟨hb2, g, rfl, hf2⟩
        have HB2 : Hid (Below w.heap.size w w2) := Lib.hid (HB1.out.trans (hb2.mono HB1.out.size))
        have HF2 := Lib.hid hf2
        clear hb2 hf2
        go_wp2_with fail
        refine (HS2.out w2 HB2.out).mono ?_
        rintro e w3 ⟨hb3, rfl⟩
        have HB3 : Hid (Below w.heap.size w w3) := Lib.hid (HB2.out.trans (hb3.mono HB2.out.size))
        have HF3 : Hid (FaultB w3 g (a 2) y.size) := Lib.hid (Blk.below HF2.out hb3 (Blk.lt HF2.out))
        have IA := Lib.hid (at_fault g y.size a w3 (HE.out.below HB3.out) HF3.out)
        clear hb3
        go_wp2_with fail
        refine IA.out.mono ?_
        rintro e w4 ⟨rfl, hb4⟩
        have HB4 : Hid (Below w.heap.size w w4) := Lib.hid (HB3.out.trans (hb4.mono HB3.out.size))
        have HF4 : Hid (FaultB w4 g (a 2) y.size) := Lib.hid (Blk.below HF3.out hb4 (Blk.lt HF3.out))
        have IC := Lib.hid (code_fault g y.size a w4 (HE.out.below HB4.out) HF4.out)
        clear hb4 IA
        go_wp2_with fail
        refine IC.out.mono ?_
        rintro e w5 ⟨rfl, hb5⟩
        have HB5 : Hid (Below w.heap.size w w5) := Lib.hid (HB4.out.trans (hb5.mono HB4.out.size))
        clear hb5 IC
        go_wp2_with fail
        go_ret
        exact ⟨by first | rfl | simp, HB5.out⟩
      | error k2 =>
        rw [hR2] at HS2
        simp only [] at HS2
        clear he hsh hx hy hz hlaw h1 hbig hR hk hk2 hkl hR2
        go_enter Tryd.func8, Tryd.ntmps8
        go_wp2_with fail
        refine HL.out.mono ?_
        rintro e w1 ⟨rfl, hb1⟩
        have HB1 := Lib.hid hb1
        clear hb1
        go_wp2_with fail
        refine (HS1.out w1 HB1.out).mono ?_
        rintro e w2 ⟨hb2, g, rfl, hf2⟩
        have HB2 : Hid (Below w.heap.size w w2) := Lib.hid (HB1.out.trans (hb2.mono HB1.out.size))
        have HF2 := Lib.hid hf2
        clear hb2 hf2
        go_wp2_with fail
        refine (HS2.out w2 HB2.out).mono ?_
        rintro e w3 ⟨hb3, g2, rfl, -⟩
        have HB3 : Hid (Below w.heap.size w w3) := Lib.hid (HB2.out.trans (hb3.mono HB2.out.size))
        have HF3 : Hid (FaultB w3 g (a 2) y.size) := Lib.hid (Blk.below HF2.out hb3 (Blk.lt HF2.out))
        have IA := Lib.hid (at_fault g y.size a w3 (HE.out.below HB3.out) HF3.out)
        clear hb3
        go_wp2_with fail
        refine IA.out.mono ?_
        rintro e w4 ⟨rfl, hb4⟩
        have HB4 : Hid (Below w.heap.size w w4) := Lib.hid (HB3.out.trans (hb4.mono HB3.out.size))
        have HF4 : Hid (FaultB w4 g (a 2) y.size) := Lib.hid (Blk.below HF3.out hb4 (Blk.lt HF3.out))
        have IC := Lib.hid (code_fault g y.size a w4 (HE.out.below HB4.out) HF4.out)
        clear hb4 IA
        go_wp2_with fail
        refine IC.out.mono ?_
        rintro e w5 ⟨rfl, hb5⟩
        have HB5 : Hid (Below w.heap.size w w5) := Lib.hid (HB4.out.trans (hb5.mono HB4.out.size))
        clear hb5 IC
        go_wp2_with fail
        go_ret
        exact ⟨by first | rfl | simp, HB5.out⟩
theorem wwithinB (x : ByteArray) (hx : x.size ≤ 1048576) (y : ByteArray) (hy : y.size ≤ 1048576) (z : ByteArray) (hz : z.size ≤ 1048576) (a : Nat → Addr) (w : World) (he : Errs w a) (hsh : Shorts w) :
    Calls Tryd.prog 8 #[.string x, .string y, .string z] w fun e w' => e = .returned (.bool true) ∧ Below w.heap.size w w' :=
  wwithin x y z (by omega) (by omega) (by omega) a w he hsh
theorem wwithinF (x : ByteArray) (hx : x.size ≤ 140737488351232) (y : ByteArray) (hy : y.size ≤ 140737488351232) (z : ByteArray) (hz : z.size ≤ 140737488351232) (a : Nat → Addr) (w : World) (he : Errs w a) (hsh : Shorts w) :
    Calls Tryd.prog 8 #[.string x, .string y, .string z] w fun e w' => e = .returned (.bool true) ∧ Below w.heap.size w w' :=
  wwithin x y z hx hy hz a w he hsh
end Go.Proofs.YtiignmjglihbnaaDoor
