/- cruciblelaw10.EscapeScans and EscapeUnquotes: true. -/
import Derived.Test.YtiignmjglihbnaaDoorLaw10
namespace Go.Proofs.YtiignmjglihbnaaDoor
open Go.RowKit
set_option linter.unusedVariables false

set_option maxRecDepth 100000 in
set_option maxHeartbeats 1500000 in
theorem wscans_in (s : ByteArray) (hs : s.size ≤ 140737488351232) (k : Nat) (hk : k ≤ s.size) (a : Nat → Addr) (w : World) (he : Errs w a) (hsh : Shorts w) :
    Calls Tryd.prog 4 #[.string s, .int .i64 k] w fun e w' => e = .returned (.bool true) ∧ Below w.heap.size w w' := by
  have H1 := Lib.hid (scan_at s hs k hk a w he hsh)
  have H2 := Lib.hid (fun wx => rscan_any s hs k hk wx)
  rw [scan_law s k hk] at H2
  have HE := Lib.hid he
  clear he hsh hk
  generalize scanQ s k = R at *
  unfold ScanPost at H1
  match R with
  | .ok (t, m) =>
    have HNIL := Lib.hid (fun n wx => isAt_nil n wx)
    unfold rscanV faultV at H2
    simp only [] at H1 H2
    generalize strOf t = T at *
    go_enter Tryd.func4, Tryd.ntmps4
    go_wp2_with fail
    refine H1.out.mono ?_
    rintro e w1 ⟨hb1, rfl⟩
    have HB1 := Lib.hid hb1
    clear hb1
    go_wp2_with fail
    refine (H2.out _).mono ?_
    rintro e w2 ⟨rfl, hb2⟩
    have HB2 : Hid (Below w.heap.size w w2) := Lib.hid (HB1.out.trans (hb2.mono HB1.out.size))
    clear hb2
    go_wp2_with fail
    refine (HNIL.out _ _).mono ?_
    rintro e w3 ⟨rfl, rfl⟩
    go_wp2_with fail
    go_ret
    exact ⟨by simp, HB2.out.alloc HB2.out.size _⟩
  | .error i =>
    unfold rscanV faultV at H2
    simp only [] at H1 H2
    go_enter Tryd.func4, Tryd.ntmps4
    go_wp2_with fail
    refine H1.out.mono ?_
    rintro e w1 ⟨hb1, g, rfl, hf1⟩
    have HB1 := Lib.hid hb1
    have HF1 := Lib.hid hf1
    clear hb1 hf1
    go_wp2_with fail
    refine (H2.out _).mono ?_
    rintro e w2 ⟨rfl, hb2⟩
    have HB2 : Hid (Below w.heap.size w w2) := Lib.hid (HB1.out.trans (hb2.mono HB1.out.size))
    have HF2 : Hid (FaultB w2 g (a 2) i) := Lib.hid (Blk.below HF1.out hb2 (Blk.lt HF1.out))
    clear hb2
    go_upto_region 3 with fail
    have HB3 : Hid (Below w.heap.size w (w2.alloc (.cells #[.int .i64 3, .int .i64 i, .string ⟨#[]⟩] 30))) := Lib.hid (HB2.out.alloc HB2.out.size _)
    have HF3 : Hid (FaultB (w2.alloc (.cells #[.int .i64 3, .int .i64 i, .string ⟨#[]⟩] 30)) g (a 2) i) := Lib.hid (Blk.alloc HF2.out _)
    have IA := Lib.hid (isAt_fault g i a _ (HE.out.below HB3.out) HF3.out i)
    rw [show ((i : Int) == (i : Int)) = true from beq_self_eq_true _] at IA
    go_wp2_with fail
    refine IA.out.mono ?_
    rintro e w4 ⟨rfl, hb4⟩
    have HB4 : Hid (Below w.heap.size w w4) := Lib.hid (HB3.out.trans (hb4.mono HB3.out.size))
    clear hb4 IA
    go_wp2_with fail
    go_ret
    exact ⟨by first | rfl | simp, HB4.out⟩

set_option maxRecDepth 100000 in
set_option maxHeartbeats 1500000 in
theorem wscans_out (s : ByteArray) (n : Int) (hn : n < 0 ∨ (s.size : Int) < n) (a : Nat → Addr) (w : World) (he : Errs w a) :
    Calls Tryd.prog 4 #[.string s, .int .i64 n] w fun e w' => e = .returned (.bool true) ∧ Below w.heap.size w w' := by
  have H1 := Lib.hid (scan_arg s n hn a w he)
  have H2 := Lib.hid (fun wx => rscan_arg s n hn wx)
  have HI := Lib.hid (fun wx (hb : Below w.heap.size w wx) => is1_arg a wx (he.below hb))
  unfold faultV at H2
  clear he hn
  go_enter Tryd.func4, Tryd.ntmps4
  go_wp2_with fail
  refine H1.out.mono ?_
  rintro e w1 ⟨rfl, hb1⟩
  have HB1 := Lib.hid hb1
  clear hb1
  go_wp2_with fail
  refine (H2.out _).mono ?_
  rintro e w2 ⟨rfl, hb2⟩
  have HB2 : Hid (Below w.heap.size w w2) := Lib.hid (HB1.out.trans (hb2.mono HB1.out.size))
  clear hb2
  go_wp2_with fail
  refine (HI.out _ (HB2.out.alloc HB2.out.size _)).mono ?_
  rintro e w3 ⟨rfl, hb3⟩
  have HB3 : Hid (Below w.heap.size w w3) := Lib.hid ((HB2.out.alloc HB2.out.size _).trans (hb3.mono (by have := HB2.out.size; simp; omega)))
  clear hb3
  go_wp2_with fail
  go_ret
  exact ⟨by first | rfl | simp, HB3.out⟩

theorem wscans (s : ByteArray) (hs : s.size ≤ 140737488351232) (n : Int) (a : Nat → Addr) (w : World) (he : Errs w a) (hsh : Shorts w) :
    Calls Tryd.prog 4 #[.string s, .int .i64 n] w fun e w' => e = .returned (.bool true) ∧ Below w.heap.size w w' := by
  by_cases h : n < 0 ∨ (s.size : Int) < n
  · exact wscans_out s n h a w he
  · obtain ⟨k, rfl⟩ : ∃ k : Nat, n = (k : Int) := ⟨n.toNat, by omega⟩
    exact wscans_in s hs k (by omega) a w he hsh

set_option maxRecDepth 100000 in
set_option maxHeartbeats 1500000 in
theorem wunq (s : ByteArray) (hs : s.size ≤ 140737488351232) (a : Nat → Addr) (w : World) (he : Errs w a) (hsh : Shorts w) :
    Calls Tryd.prog 5 #[.string s] w fun e w' => e = .returned (.bool true) ∧ Below w.heap.size w w' := by
  have H1 := Lib.hid (unquote_of s (scanQ s 0) a w he (scan_at s hs 0 (Nat.zero_le _) a w he hsh))
  have H2 := Lib.hid (fun wx => runquote_any s hs wx)
  rw [scan_law s 0 (Nat.zero_le _)] at H2
  have HE := Lib.hid he
  clear he hsh
  have HQ : ∀ R, runqV s R = (match unqQ s R with
    | .error i => .tuple #[.string ⟨#[]⟩, faultV 3 i]
    | .ok t => .tuple #[.string (strOf t), faultV 0 0]) := by
    intro R
    match R with
    | .error i => rfl
    | .ok (t, n) =>
      unfold runqV unqQ
      by_cases q : n < s.size
      · simp only [if_pos q]
      · simp only [if_neg q]
  rw [HQ] at H2
  clear HQ
  generalize unqQ s (scanQ s 0) = R at *
  unfold UnqPost at H1
  match R with
  | .ok t =>
    have HNIL := Lib.hid (fun n wx => isAt_nil n wx)
    unfold faultV at H2
    simp only [] at H1 H2
    generalize strOf t = T at *
    go_enter Tryd.func5, Tryd.ntmps5
    go_wp2_with fail
    refine H1.out.mono ?_
    rintro e w1 ⟨hb1, rfl⟩
    have HB1 := Lib.hid hb1
    clear hb1
    go_wp2_with fail
    refine (H2.out _).mono ?_
    rintro e w2 ⟨rfl, hb2⟩
    have HB2 : Hid (Below w.heap.size w w2) := Lib.hid (HB1.out.trans (hb2.mono HB1.out.size))
    clear hb2
    go_wp2_with fail
    refine (HNIL.out _ _).mono ?_
    rintro e w3 ⟨rfl, rfl⟩
    go_wp2_with fail
    go_ret
    exact ⟨by simp, HB2.out.alloc HB2.out.size _⟩
  | .error i =>
    unfold faultV at H2
    simp only [] at H1 H2
    go_enter Tryd.func5, Tryd.ntmps5
    go_wp2_with fail
    refine H1.out.mono ?_
    rintro e w1 ⟨hb1, g, rfl, hf1⟩
    have HB1 := Lib.hid hb1
    have HF1 := Lib.hid hf1
    clear hb1 hf1
    go_wp2_with fail
    refine (H2.out _).mono ?_
    rintro e w2 ⟨rfl, hb2⟩
    have HB2 : Hid (Below w.heap.size w w2) := Lib.hid (HB1.out.trans (hb2.mono HB1.out.size))
    have HF2 : Hid (FaultB w2 g (a 2) i) := Lib.hid (Blk.below HF1.out hb2 (Blk.lt HF1.out))
    clear hb2
    go_upto_region 3 with fail
    have HB3 : Hid (Below w.heap.size w (w2.alloc (.cells #[.int .i64 3, .int .i64 i, .string ⟨#[]⟩] 30))) := Lib.hid (HB2.out.alloc HB2.out.size _)
    have HF3 : Hid (FaultB (w2.alloc (.cells #[.int .i64 3, .int .i64 i, .string ⟨#[]⟩] 30)) g (a 2) i) := Lib.hid (Blk.alloc HF2.out _)
    have IA := Lib.hid (isAt_fault g i a _ (HE.out.below HB3.out) HF3.out i)
    rw [show ((i : Int) == (i : Int)) = true from beq_self_eq_true _] at IA
    go_wp2_with fail
    refine IA.out.mono ?_
    rintro e w4 ⟨rfl, hb4⟩
    have HB4 : Hid (Below w.heap.size w w4) := Lib.hid (HB3.out.trans (hb4.mono HB3.out.size))
    clear hb4 IA
    go_wp2_with fail
    go_ret
    exact ⟨by first | rfl | simp, HB4.out⟩
theorem wscansB (s : ByteArray) (hs : s.size ≤ 1048576) (n : Int) (a : Nat → Addr) (w : World) (he : Errs w a) (hsh : Shorts w) :
    Calls Tryd.prog 4 #[.string s, .int .i64 n] w fun e w' => e = .returned (.bool true) ∧ Below w.heap.size w w' :=
  wscans s (by omega) n a w he hsh
theorem wunqB (s : ByteArray) (hs : s.size ≤ 1048576) (a : Nat → Addr) (w : World) (he : Errs w a) (hsh : Shorts w) :
    Calls Tryd.prog 5 #[.string s] w fun e w' => e = .returned (.bool true) ∧ Below w.heap.size w w' :=
  wunq s (by omega) a w he hsh
end Go.Proofs.YtiignmjglihbnaaDoor
