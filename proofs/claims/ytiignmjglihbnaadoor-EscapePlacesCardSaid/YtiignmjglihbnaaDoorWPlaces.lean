/- cruciblelaw10.EscapePlaces: true. -/
import Derived.Test.YtiignmjglihbnaaDoorWPlaces0
namespace Go.Proofs.YtiignmjglihbnaaDoor
open Go.RowKit
set_option linter.unusedVariables false

theorem goes_live (p : ByteArray) (hp : p.size ≤ 2000000) (hl : Live p) (a : Nat → Addr) (w : World) (he : Errs w a) (hsh : Shorts w) :
    Calls Tryd.prog 22 #[.string p] w fun e w' => e = .returned (.bool true) ∧ Below w.heap.size w w' :=
  goes_any p hp true (fun _ _ _ _ => rfl) (fun h => by
    obtain ⟨j, hj, t, ht⟩ := live_goes p hl
    obtain ⟨i, hi⟩ := h j hj
    rw [ht] at hi; cases hi) a w he hsh
theorem goes_dead (p : ByteArray) (hp : p.size ≤ 2000000) (k : Nat) (hd : Dead p k) (a : Nat → Addr) (w : World) (he : Errs w a) (hsh : Shorts w) :
    Calls Tryd.prog 22 #[.string p] w fun e w' => e = .returned (.bool false) ∧ Below w.heap.size w w' :=
  goes_any p hp false (fun j hj t ht => by rw [dead_goes p k hd (endS j)] at ht; cases ht) (fun _ => rfl) a w he hsh

set_option maxRecDepth 100000 in
set_option maxHeartbeats 1000000 in
theorem wplaces (s : ByteArray) (hs : s.size ≤ 1048576) (c : Nat) (hc : c < 65536) (a : Nat → Addr) (w : World) (he : Errs w a) (hsh : Shorts w) :
    Calls Tryd.prog 9 #[.string s, .int .u16 c] w fun e w' => e = .returned (.bool true) ∧ Below w.heap.size w w' := by
  have HL := Lib.hid (lives_any a w he hsh)
  have HS1 := Lib.hid (fun wx (hb : Below w.heap.size w wx) => scan_at s (by omega) 0 (Nat.zero_le _) a wx (he.below hb) (hsh.below hb))
  have HE := Lib.hid he
  have z0 : ¬ ((1048576 : Int) < (s.size : Int)) := by omega
  have HS := Lib.hid hs
  unfold ScanPost at HS1
  cases hR : scanQ s 0 with
  | ok tn =>
    obtain ⟨t, n⟩ := tn
    rw [hR] at HS1
    simp only [] at HS1
    obtain ⟨hn2, hn, hlive⟩ := places_ok s t n hR
    obtain ⟨k, hk⟩ : ∃ k, k = c % n := ⟨_, rfl⟩
    have hkn : k < n := by rw [hk]; exact Nat.mod_lt _ (by omega)
    have hLk := hlive k hkn
    have hpk := pre_size s k (by omega)
    have HS2 := Lib.hid (fun wx (hb : Below w.heap.size w wx) => scan_at (s.extract 0 k) (by omega) 0 (Nat.zero_le _) a wx (he.below hb) (hsh.below hb))
    unfold ScanPost at HS2
    rw [live_scan _ hLk, hpk] at HS2
    simp only [] at HS2
    have HG := Lib.hid (fun wx (hb : Below w.heap.size w wx) => goes_live (s.extract 0 k) (by omega) hLk a wx (he.below hb) (hsh.below hb))
    have z1 : ¬ ((n : Int) < 2) := by omega
    have z2 : ¬ ((s.size : Int) < (n : Int)) := by omega
    have z3 : ((n : Int) == 0) = false := by rw [beq_eq_false_iff_ne]; omega
    have z4 : (k : Int) ≤ (s.size : Int) := by omega
    have M0 : Hid (wrap64 (c : Int) = (c : Int)) := Lib.hid (by unfold wrap64; omega)
    have m1 : (c : Int) % (n : Int) = (k : Int) := by rw [hk]; omega
    have m2 : Int.tmod (c : Int) (n : Int) = (k : Int) := by rw [Int.tmod_eq_emod_of_nonneg (by omega)]; exact m1
    generalize strOf t = T at *
    clear he hsh hs hR hlive hLk hpk hn2 hn hkn hk hc
    go_enter Tryd.func9, Tryd.ntmps9
    go_wp2_with fail
    refine HL.out.mono ?_
    rintro e w1 ⟨rfl, hb1⟩
    have HB1 := Lib.hid hb1
    clear hb1
    go_wp2_with fail
    refine (HS1.out w1 HB1.out).mono ?_
    rintro e w2 ⟨hb2, rfl⟩
    have HB2 : Hid (Below w.heap.size w w2) := Lib.hid (HB1.out.trans (hb2.mono HB1.out.size))
    clear hb2
    have m0 := M0.out
    go_wp2_with fail
    clear m0
    refine (HS2.out w2 HB2.out).mono ?_
    rintro e w3 ⟨hb3, g, rfl, hf3⟩
    have HB3 : Hid (Below w.heap.size w w3) := Lib.hid (HB2.out.trans (hb3.mono HB2.out.size))
    have IA := Lib.hid (isAt_fault g k a w3 (HE.out.below HB3.out) hf3 k)
    rw [beq_self_eq_true] at IA
    clear hb3 hf3
    go_wp2_with fail
    refine IA.out.mono ?_
    rintro e w4 ⟨rfl, hb4⟩
    have HB4 : Hid (Below w.heap.size w w4) := Lib.hid (HB3.out.trans (hb4.mono HB3.out.size))
    clear hb4 IA
    go_wp2_with fail
    refine (HG.out w4 HB4.out).mono ?_
    rintro e w5 ⟨rfl, hb5⟩
    have HB5 : Hid (Below w.heap.size w w5) := Lib.hid (HB4.out.trans (hb5.mono HB4.out.size))
    clear hb5
    go_wp2_with fail
    go_ret
    exact ⟨by first | rfl | simp, HB5.out⟩
  | error k =>
    rw [hR] at HS1
    simp only [] at HS1
    obtain ⟨hk, hLk, hD⟩ := places_err s k hR
    have hpk := pre_size s k (by omega)
    have HG := Lib.hid (fun wx (hb : Below w.heap.size w wx) => goes_live (s.extract 0 k) (by omega) hLk a wx (he.below hb) (hsh.below hb))
    have z1 : ¬ ((k : Int) < 0) := by omega
    have z2 : ¬ ((s.size : Int) < (k : Int)) := by omega
    have z4 : (k : Int) ≤ (s.size : Int) := by omega
    by_cases hlt : k < s.size
    · have hD1 := hD hlt
      have hpk1 := pre_size s (k + 1) hlt
      have HD := Lib.hid (fun wx (hb : Below w.heap.size w wx) => goes_dead (s.extract 0 (k + 1)) (by omega) k hD1 a wx (he.below hb) (hsh.below hb))
      have z5 : ((k : Int) == (s.size : Int)) = false := by rw [beq_eq_false_iff_ne]; omega
      have e1 := Lib.hid (IntWalk.i64_in ((k : Int) + 1) (by omega))
      have e1 := e1.out
      have z6 : (k : Int) + 1 ≤ (s.size : Int) := by omega
      clear he hsh hs hR hLk hpk hk hc hD hD1 hpk1 hlt
      go_enter Tryd.func9, Tryd.ntmps9
      go_wp2_with fail
      refine HL.out.mono ?_
      rintro e w1 ⟨rfl, hb1⟩
      have HB1 := Lib.hid hb1
      clear hb1
      go_wp2_with fail
      refine (HS1.out w1 HB1.out).mono ?_
      rintro e w2 ⟨hb2, g, rfl, hf2⟩
      have HB2 : Hid (Below w.heap.size w w2) := Lib.hid (HB1.out.trans (hb2.mono HB1.out.size))
      have IA := Lib.hid (at_fault g k a w2 (HE.out.below HB2.out) hf2)
      clear hb2 hf2
      go_wp2_with fail
      refine IA.out.mono ?_
      rintro e w3 ⟨rfl, hb3⟩
      have HB3 : Hid (Below w.heap.size w w3) := Lib.hid (HB2.out.trans (hb3.mono HB2.out.size))
      clear hb3 IA
      go_wp2_with fail
      refine (HG.out w3 HB3.out).mono ?_
      rintro e w4 ⟨rfl, hb4⟩
      have HB4 : Hid (Below w.heap.size w w4) := Lib.hid (HB3.out.trans (hb4.mono HB3.out.size))
      clear hb4
      go_wp2_with fail
      refine (HD.out w4 HB4.out).mono ?_
      rintro e w5 ⟨rfl, hb5⟩
      have HB5 : Hid (Below w.heap.size w w5) := Lib.hid (HB4.out.trans (hb5.mono HB4.out.size))
      clear hb5
      go_wp2_with fail
      go_ret
      exact ⟨by first | rfl | simp, HB5.out⟩
    · obtain rfl : k = s.size := by omega
      have hx : s.extract 0 s.size = s := by simp
      rw [hx] at HG
      clear hx he hsh hs hR hLk hpk hk hc hD hlt
      go_enter Tryd.func9, Tryd.ntmps9
      go_wp2_with fail
      refine HL.out.mono ?_
      rintro e w1 ⟨rfl, hb1⟩
      have HB1 := Lib.hid hb1
      clear hb1
      go_wp2_with fail
      refine (HS1.out w1 HB1.out).mono ?_
      rintro e w2 ⟨hb2, g, rfl, hf2⟩
      have HB2 : Hid (Below w.heap.size w w2) := Lib.hid (HB1.out.trans (hb2.mono HB1.out.size))
      have IA := Lib.hid (at_fault g s.size a w2 (HE.out.below HB2.out) hf2)
      clear hb2 hf2
      go_wp2_with fail
      refine IA.out.mono ?_
      rintro e w3 ⟨rfl, hb3⟩
      have HB3 : Hid (Below w.heap.size w w3) := Lib.hid (HB2.out.trans (hb3.mono HB2.out.size))
      clear hb3 IA
      go_wp2_with fail
      refine (HG.out w3 HB3.out).mono ?_
      rintro e w4 ⟨rfl, hb4⟩
      have HB4 : Hid (Below w.heap.size w w4) := Lib.hid (HB3.out.trans (hb4.mono HB3.out.size))
      clear hb4
      go_wp2_with fail
      go_ret
      exact ⟨by first | rfl | simp, HB4.out⟩
theorem wplacesB (s : ByteArray) (hs : s.size ≤ 1048576) (c : Int) (hc : (Lit.int .u16 c).wf = true) (a : Nat → Addr) (w : World) (he : Errs w a) (hsh : Shorts w) :
    Calls Tryd.prog 9 #[.string s, .int .u16 c] w fun e w' => e = .returned (.bool true) ∧ Below w.heap.size w w' := by
  have h1 : IntKind.u16.min = 0 := rfl
  have h2 : IntKind.u16.max = 65535 := rfl
  simp only [Lit.wf, Bool.and_eq_true, decide_eq_true_eq] at hc
  obtain ⟨k, rfl⟩ : ∃ k : Nat, c = (k : Int) := ⟨c.toNat, by omega⟩
  exact wplaces s hs k (by omega) a w he hsh
set_option maxRecDepth 100000 in
theorem wplaces_big (s : ByteArray) (hs : 1048576 < s.size) (c : Int) (a : Nat → Addr) (w : World) (he : Errs w a) (hsh : Shorts w) :
    Calls Tryd.prog 9 #[.string s, .int .u16 c] w fun e w' => e = .returned (.bool true) ∧ Below w.heap.size w w' := by
  have HL := Lib.hid (lives_any a w he hsh)
  have z0 : (1048576 : Int) < (s.size : Int) := by omega
  clear he hsh hs
  go_enter Tryd.func9, Tryd.ntmps9
  go_wp2_with fail
  refine HL.out.mono ?_
  rintro e w1 ⟨rfl, hb1⟩
  have HB1 := Lib.hid hb1
  clear hb1
  go_wp2_with fail
  go_ret
  exact ⟨rfl, HB1.out⟩
theorem wplacesF (s : ByteArray) (hs : s.size ≤ 140737488351232) (c : Int) (hc : (Lit.int .u16 c).wf = true) (a : Nat → Addr) (w : World) (he : Errs w a) (hsh : Shorts w) :
    Calls Tryd.prog 9 #[.string s, .int .u16 c] w fun e w' => e = .returned (.bool true) ∧ Below w.heap.size w w' := by
  by_cases h : s.size ≤ 1048576
  · exact wplacesB s h c hc a w he hsh
  · exact wplaces_big s (by omega) c a w he hsh
end Go.Proofs.YtiignmjglihbnaaDoor
