/- Contracts of crucibleref10.Scan at a place out of the text, and of crucibleref10.Unquote. -/
import Derived.Test.YtiignmjglihbnaaDoorRScan
namespace Go.Proofs.YtiignmjglihbnaaDoor
open Go.RowKit
set_option linter.unusedVariables false

set_option maxRecDepth 100000 in
theorem rscan_arg (s : ByteArray) (a : Int) (ha : a < 0 ∨ (s.size : Int) < a) (w : World) :
    Calls Tryd.prog 13 #[.string s, .int .i64 a] w fun e w' => e = .returned (.tuple #[.string ⟨#[]⟩, .int .i64 0, faultV 1 0]) ∧ Below w.heap.size w w' := by
  rcases ha with h | h
  · go_enter Tryd.func13, Tryd.ntmps13
    go_wp2_with fail
    have HG := Lib.hid (Blk.new w 30 #[.int .i64 1, .int .i64 0, .string ⟨#[]⟩])
    have HW := Lib.hid ((Below.refl w.heap.size w).alloc (Nat.le_refl _) (.cells #[.int .i64 1, .int .i64 0, .string ⟨#[]⟩] 30))
    (try simp only [Exit.inBlock, Exit.then])
    refine bodyPost_ret (results_ttc rfl _ _ w.heap.size 30 _ (0, 0) _ (by rfl) HG.out Tryd.underlying30 (by rfl) (by kernel_rfl)) rfl ?_
    exact ⟨rfl, HW.out⟩
  · have h' : ¬ (a < 0) := by omega
    go_enter Tryd.func13, Tryd.ntmps13
    go_wp2_with fail
    have HG := Lib.hid (Blk.new w 30 #[.int .i64 1, .int .i64 0, .string ⟨#[]⟩])
    have HW := Lib.hid ((Below.refl w.heap.size w).alloc (Nat.le_refl _) (.cells #[.int .i64 1, .int .i64 0, .string ⟨#[]⟩] 30))
    (try simp only [Exit.inBlock, Exit.then])
    refine bodyPost_ret (results_ttc rfl _ _ w.heap.size 30 _ (0, 0) _ (by rfl) HG.out Tryd.underlying30 (by rfl) (by kernel_rfl)) rfl ?_
    exact ⟨rfl, HW.out⟩

def runqV (s : ByteArray) : Except Nat (List Nat × Nat) → Value
  | .error i => .tuple #[.string ⟨#[]⟩, faultV 3 i]
  | .ok (t, n) => if n < s.size then .tuple #[.string ⟨#[]⟩, faultV 3 n] else .tuple #[.string (strOf t), faultV 0 0]

set_option maxRecDepth 100000 in
set_option maxHeartbeats 1500000 in
theorem runquote_any (s : ByteArray) (hs : s.size ≤ 140737488351232) (w : World) :
    Calls Tryd.prog 17 #[.string s] w fun e w' => e = .returned (runqV s (scanAt s 0)) ∧ Below w.heap.size w w' := by
  have HC := fun wx => rscan_any s hs 0 (Nat.zero_le _) wx
  generalize scanAt s 0 = res at *
  have HC := Lib.hid HC
  match res with
  | .error i =>
    go_enter Tryd.func17, Tryd.ntmps17
    go_wp2_with fail
    refine (HC.out _).mono ?_
    rintro e w2 ⟨rfl, h2⟩
    unfold rscanV faultV
    simp only []
    have H2 := Lib.hid h2
    clear h2
    go_upto_region 2 with fail
    have HA := Lib.hid (Blk.new w2 30 #[.int .i64 3, .int .i64 i, .string ⟨#[]⟩])
    have HF := Lib.hid (((Blk.new w 30 #[.int .i64 0, .int .i64 0, .string ⟨#[]⟩]).below H2.out (by simp)).alloc (.cells #[.int .i64 3, .int .i64 i, .string ⟨#[]⟩] 30))
    have H3 : Hid (Below w.heap.size w (w2.alloc (.cells #[.int .i64 3, .int .i64 i, .string ⟨#[]⟩] 30))) := Lib.hid ((((Below.refl w.heap.size w).alloc (Nat.le_refl _) _).trans (H2.out.mono (by simp))).alloc (by have := H2.out.size; simp at this; omega) _)
    have HZ : Hid (w.heap.size < w2.heap.size) := Lib.hid (by have := H2.out.size; simp at this; omega)
    generalize (w2.alloc (.cells #[.int .i64 3, .int .i64 i, .string ⟨#[]⟩] 30)) = w3 at *
    generalize w2.heap.size = g at *
    have e0 := HA.out.cell 0
    have e1 := HA.out.cell 1
    have e2 := HA.out.cell 2
    have x0 := HF.out.cell 0
    have x1 := HF.out.cell 1
    have x2 := HF.out.cell 2
    have f0 := HF.out.frozen 0
    have f1 := HF.out.frozen 1
    have f2 := HF.out.frozen 2
    go_upto_region 4 with fail
    go_region_law (fail)
    all_goals
      go_wp2_with fail
      have HG := Lib.hid (fault_set HF.out rfl (.int .i64 3) (.int .i64 i) (.string ⟨#[]⟩))
      have HW := Lib.hid (below_drewN' (fault_below H3.out (.int .i64 3) (.int .i64 i) (.string ⟨#[]⟩)) 1)
      (try simp only [Exit.inBlock, Exit.then])
      refine bodyPost_ret (results_tc rfl _ _ w.heap.size 30 _ (0, 0) _ (by rfl) HG.out Tryd.underlying30 (by rfl) (by kernel_rfl)) rfl ?_
      exact ⟨rfl, HW.out⟩
  | .ok (t, n) =>
    by_cases hn : n < s.size
    · go_enter Tryd.func17, Tryd.ntmps17
      go_wp2_with fail
      refine (HC.out _).mono ?_
      rintro e w2 ⟨rfl, h2⟩
      unfold rscanV faultV
      simp only []
      have H2 := Lib.hid h2
      clear h2
      go_upto_region 2 with fail
      have HA := Lib.hid (Blk.new w2 30 #[.int .i64 0, .int .i64 0, .string ⟨#[]⟩])
      have HF := Lib.hid (((Blk.new w 30 #[.int .i64 0, .int .i64 0, .string ⟨#[]⟩]).below H2.out (by simp)).alloc (.cells #[.int .i64 0, .int .i64 0, .string ⟨#[]⟩] 30))
      have H3 : Hid (Below w.heap.size w (w2.alloc (.cells #[.int .i64 0, .int .i64 0, .string ⟨#[]⟩] 30))) := Lib.hid ((((Below.refl w.heap.size w).alloc (Nat.le_refl _) _).trans (H2.out.mono (by simp))).alloc (by have := H2.out.size; simp at this; omega) _)
      have HZ : Hid (w.heap.size < w2.heap.size) := Lib.hid (by have := H2.out.size; simp at this; omega)
      generalize (w2.alloc (.cells #[.int .i64 0, .int .i64 0, .string ⟨#[]⟩] 30)) = w3 at *
      generalize w2.heap.size = g at *
      have HN := Lib.hid hn
      have hn' : (n : Int) < (s.size : Int) := by omega
      clear hn
      have e0 := HA.out.cell 0
      have e1 := HA.out.cell 1
      have e2 := HA.out.cell 2
      have x0 := HF.out.cell 0
      have x1 := HF.out.cell 1
      have x2 := HF.out.cell 2
      have f0 := HF.out.frozen 0
      have f1 := HF.out.frozen 1
      have f2 := HF.out.frozen 2
      go_wp2_with fail
      have HG := Lib.hid (fault_set HF.out rfl (.int .i64 3) (.int .i64 n) (.string ⟨#[]⟩))
      have HW := Lib.hid (id (fault_below H3.out (.int .i64 3) (.int .i64 n) (.string ⟨#[]⟩)))
      (try simp only [Exit.inBlock, Exit.then])
      refine bodyPost_ret (results_tc rfl _ _ w.heap.size 30 _ (0, 0) _ (by rfl) HG.out Tryd.underlying30 (by rfl) (by kernel_rfl)) rfl ?_
      exact ⟨by show _ = Ending.returned (if n < s.size then _ else _); rw [if_pos HN.out]; rfl, HW.out⟩
    · go_enter Tryd.func17, Tryd.ntmps17
      go_wp2_with fail
      refine (HC.out _).mono ?_
      rintro e w2 ⟨rfl, h2⟩
      unfold rscanV faultV
      simp only []
      have H2 := Lib.hid h2
      clear h2
      go_upto_region 2 with fail
      have HA := Lib.hid (Blk.new w2 30 #[.int .i64 0, .int .i64 0, .string ⟨#[]⟩])
      have HF := Lib.hid (((Blk.new w 30 #[.int .i64 0, .int .i64 0, .string ⟨#[]⟩]).below H2.out (by simp)).alloc (.cells #[.int .i64 0, .int .i64 0, .string ⟨#[]⟩] 30))
      have H3 : Hid (Below w.heap.size w (w2.alloc (.cells #[.int .i64 0, .int .i64 0, .string ⟨#[]⟩] 30))) := Lib.hid ((((Below.refl w.heap.size w).alloc (Nat.le_refl _) _).trans (H2.out.mono (by simp))).alloc (by have := H2.out.size; simp at this; omega) _)
      have HZ : Hid (w.heap.size < w2.heap.size) := Lib.hid (by have := H2.out.size; simp at this; omega)
      generalize (w2.alloc (.cells #[.int .i64 0, .int .i64 0, .string ⟨#[]⟩] 30)) = w3 at *
      generalize w2.heap.size = g at *
      have HN := Lib.hid hn
      have hn' : ¬ ((n : Int) < (s.size : Int)) := by omega
      clear hn
      have e0 := HA.out.cell 0
      have e1 := HA.out.cell 1
      have e2 := HA.out.cell 2
      have x0 := HF.out.cell 0
      have x1 := HF.out.cell 1
      have x2 := HF.out.cell 2
      have f0 := HF.out.frozen 0
      have f1 := HF.out.frozen 1
      have f2 := HF.out.frozen 2
      go_upto_region 4 with fail
      go_region_law (fail)
      all_goals
        go_wp2_with fail
        have HG := Lib.hid (fault_set HF.out rfl (.int .i64 0) (.int .i64 0) (.string ⟨#[]⟩))
        have HW := Lib.hid (below_drewN' (fault_below H3.out (.int .i64 0) (.int .i64 0) (.string ⟨#[]⟩)) 1)
        (try simp only [Exit.inBlock, Exit.then])
        refine bodyPost_ret (results_tc rfl _ _ w.heap.size 30 _ (0, 0) _ (by rfl) HG.out Tryd.underlying30 (by rfl) (by kernel_rfl)) rfl ?_
        exact ⟨by show _ = Ending.returned (if n < s.size then _ else _); rw [if_neg HN.out]; rfl, HW.out⟩
end Go.Proofs.YtiignmjglihbnaaDoor
