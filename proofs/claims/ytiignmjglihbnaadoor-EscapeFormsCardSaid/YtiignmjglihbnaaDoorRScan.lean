/- Contract of crucibleref10.Scan. -/
import Derived.Test.YtiignmjglihbnaaDoorRScan0
namespace Go.Proofs.YtiignmjglihbnaaDoor
open Go.RowKit
set_option linter.unusedVariables false

def RSRel (w : World) (s : ByteArray) (a : Nat) (v8 : Value) (wr : World) : Prop :=
  ∃ (k : Nat) (st : St), v8 = .int .i64 k ∧ k ≤ s.size ∧ StAt wr (w.heap.size + 1) (w.heap.size + 1) st ∧ InS st ∧ ByteL st.text ∧ (st.text.length : Int) + pend st ≤ k ∧ scanG (bt s) (s.size - k) k st = scanAt s a ∧ Below (w.heap.size + 1) (w.alloc (.cells #[.int .i64 0, .int .i64 0, .string ⟨#[]⟩] 30)) wr ∧ w.heap.size + 1 < wr.heap.size

set_option maxRecDepth 100000 in
set_option maxHeartbeats 1500000 in
theorem rscan_any (s : ByteArray) (hs : s.size ≤ 140737488351232) (a : Nat) (ha : a ≤ s.size) (w : World) :
    Calls Tryd.prog 13 #[.string s, .int .i64 a] w fun e w' => e = .returned (rscanV (scanAt s a)) ∧ Below w.heap.size w w' := by
  have a0 : ¬ ((a : Int) < 0) := by omega
  have a1 : ¬ ((s.size : Int) < (a : Int)) := by omega
  go_enter Tryd.func13, Tryd.ntmps13
  go_wp2_with fail
  go_loopw [4, 5, 8] (fun _ _ v8 wr => RSRel w s a v8 wr) (fun _ _ v8 _ => s.size - (intOf v8).toNat)
  case atStart => exact ⟨a, StZ, rfl, ha, ⟨.slice none 0 0, by have h := Blk.new (w.alloc (.cells #[.int .i64 0, .int .i64 0, .string ⟨#[]⟩] 30)) 61 (stCells StZ (.slice none 0 0)); rw [World.size_alloc] at h; exact h, ⟨rfl, .inl ⟨rfl, rfl⟩⟩⟩, InS_Z, (by intro x hx; cases hx), (by show (0 : Int) + 0 ≤ (a : Int); omega), rfl, (Below.refl _ _).alloc (by simp) _, by simp⟩
  case round =>
    obtain ⟨k, st, rfl, hk, hst, hin, hby, htl, hrun, hbel, hsz⟩ := hrel
    have HRUN := Lib.hid hrun
    have HBEL := Lib.hid hbel
    have HSZ := Lib.hid hsz
    have HTL := Lib.hid htl
    have HBY := Lib.hid hby
    have HIN := Lib.hid hin
    have HST := Lib.hid hst
    clear hrun hbel hsz htl hby hin hst
    have k0 : 0 ≤ (k : Int) := by omega
    by_cases hlt : k < s.size
    · obtain ⟨r, hr⟩ : ∃ r, s.size - k = r + 1 := ⟨s.size - k - 1, by omega⟩
      have hr2 : s.size - (k + 1) = r := by omega
      have hc := bt_lt hlt
      have hrun := HRUN.out
      rw [hr, scanG] at hrun
      rw [bt_in hlt] at hc hrun
      have HC := step_any wr (w.heap.size + 1) (w.heap.size + 1) st (s[k].toNat) hc HIN.out HST.out (Nat.le_refl _) (by have := HSZ.out; omega) (by have := HTL.out; have := pend_ge st HIN.out; omega)
      have hpen := step_pend st (s[k].toNat) HIN.out
      have hok := step_ok st (s[k].toNat) HIN.out
      have hbyt := step_byte st (s[k].toNat) hc HIN.out HBY.out
      generalize stepF st s[k].toNat = res at *
      obtain ⟨st2, ok⟩ := res
      have HC := Lib.hid HC
      have HRUN2 := Lib.hid hrun
      have HOK := Lib.hid hok
      have HPE := Lib.hid hpen
      have HBY2 := Lib.hid hbyt
      clear hrun hok hbyt hc hpen HRUN
      generalize hcc : s[k].toNat = c at *
      cases ok with
      | false =>
        have hrun := HRUN2.out
        rw [if_pos rfl] at hrun
        have HR := Lib.hid hrun
        clear hrun HRUN2 HOK HBY2
        go_wp2_with fail
        refine HC.out.mono ?_
        rintro e w2 ⟨rfl, h1, h2, h3⟩
        have H2 : Hid (Below (w.heap.size + 1) (w.alloc (.cells #[.int .i64 0, .int .i64 0, .string ⟨#[]⟩] 30)) w2) := Lib.hid (HBEL.out.trans h2)
        have HF := Lib.hid ((Blk.new w 30 #[.int .i64 0, .int .i64 0, .string ⟨#[]⟩]).below H2.out (Nat.lt_succ_self _))
        have x0 := HF.out.cell 0
        have x1 := HF.out.cell 1
        have x2 := HF.out.cell 2
        have f0 := HF.out.frozen 0
        have f1 := HF.out.frozen 1
        have f2 := HF.out.frozen 2
        clear h1 h2 h3
        go_wp2_with fail
        have HG := Lib.hid (fault_set HF.out rfl (.int .i64 3) (.int .i64 k) (.string ⟨#[]⟩))
        have HW := Lib.hid (fault_below ((((Below.refl w.heap.size w).alloc (Nat.le_refl _) (.cells #[.int .i64 0, .int .i64 0, .string ⟨#[]⟩] 30)).trans (H2.out.mono (Nat.le_succ _)))) (.int .i64 3) (.int .i64 k) (.string ⟨#[]⟩))
        (try simp only [Exit.inBlock, Exit.then])
        refine bodyPost_ret (results_ttc rfl _ _ w.heap.size 30 _ (0, 0) _ (by rfl) HG.out Tryd.underlying30 (by rfl) (by kernel_rfl)) rfl ?_
        exact ⟨by rw [← HR.out]; rfl, HW.out⟩
      | true =>
        have hrun := HRUN2.out
        rw [if_neg (show ¬ (true = false) from by decide)] at hrun
        by_cases hm : st2.mode = 7
        · rw [if_pos hm] at hrun
          have HR := Lib.hid hrun
          clear hrun HRUN2
          go_wp2_with fail
          refine HC.out.mono ?_
          rintro e w2 ⟨rfl, ⟨v, hb, ho⟩, h2, h3⟩
          obtain ⟨A, cp, rfl, -, -, -, -⟩ := own_rd ho
          have HCV := row_string_any HBY2.out rfl ho
          have c0 := hb.cell 0
          have c6 := hb.cell 6
          unfold stCells at c0 c6
          rw [hm] at c0
          have H2 : Hid (Below (w.heap.size + 1) (w.alloc (.cells #[.int .i64 0, .int .i64 0, .string ⟨#[]⟩] 30)) w2) := Lib.hid (HBEL.out.trans h2)
          have HF := Lib.hid ((Blk.new w 30 #[.int .i64 0, .int .i64 0, .string ⟨#[]⟩]).below H2.out (Nat.lt_succ_self _))
          have x0 := HF.out.cell 0
          have x1 := HF.out.cell 1
          have x2 := HF.out.cell 2
          have f0 := HF.out.frozen 0
          have f1 := HF.out.frozen 1
          have f2 := HF.out.frozen 2
          have e1 := Lib.hid (IntWalk.i64_in ((k : Int) + 1) (by omega))
          have e1 := e1.out
          clear hb ho h2 h3 HST HOK
          go_wp2_with fail
          have HG := Lib.hid (fault_set HF.out rfl (.int .i64 0) (.int .i64 0) (.string ⟨#[]⟩))
          have HW := Lib.hid (fault_below ((((Below.refl w.heap.size w).alloc (Nat.le_refl _) (.cells #[.int .i64 0, .int .i64 0, .string ⟨#[]⟩] 30)).trans (H2.out.mono (Nat.le_succ _)))) (.int .i64 0) (.int .i64 0) (.string ⟨#[]⟩))
          (try simp only [Exit.inBlock, Exit.then])
          refine bodyPost_ret (results_ttc rfl _ _ w.heap.size 30 _ (0, 0) _ (by rfl) HG.out Tryd.underlying30 (by rfl) (by kernel_rfl)) rfl ?_
          exact ⟨by rw [← HR.out]; rfl, HW.out⟩
        · rw [if_neg hm] at hrun
          have HR := Lib.hid hrun
          have z7 : (st2.mode == 7) = false := by rw [beq_eq_false_iff_ne]; exact hm
          clear hrun HRUN2 hm
          go_wp2_with fail
          refine HC.out.mono ?_
          rintro e w2 ⟨rfl, h1, h2, h3⟩
          have h1' := h1
          obtain ⟨v, hb, ho⟩ := h1'
          have c0 := hb.cell 0
          unfold stCells at c0
          have H1 := Lib.hid h1
          have H2 : Hid (Below (w.heap.size + 1) (w.alloc (.cells #[.int .i64 0, .int .i64 0, .string ⟨#[]⟩] 30)) w2) := Lib.hid (HBEL.out.trans h2)
          have H3 := Lib.hid h3
          clear h1 h2 h3 hb ho
          go_wp2_with fail
          go_roundw
          case rel => exact ⟨k + 1, _, by go_num, by omega, H1.out, (HOK.out trivial).1, HBY2.out, by have := HPE.out trivial; have := HTL.out; omega, by rw [hr2]; exact HR.out, H2.out, by have := HSZ.out; have := H3.out; omega⟩
          case measure => simp [intOf]; omega
    · obtain rfl : k = s.size := by omega
      have hrun := HRUN.out
      rw [Nat.sub_self] at hrun
      have HR := Lib.hid hrun
      have H2 := HBEL
      have HF := Lib.hid ((Blk.new w 30 #[.int .i64 0, .int .i64 0, .string ⟨#[]⟩]).below H2.out (Nat.lt_succ_self _))
      have x0 := HF.out.cell 0
      have x1 := HF.out.cell 1
      have x2 := HF.out.cell 2
      have f0 := HF.out.frozen 0
      have f1 := HF.out.frozen 1
      have f2 := HF.out.frozen 2
      clear hrun HRUN
      go_wp2_with fail
      have HG := Lib.hid (fault_set HF.out rfl (.int .i64 3) (.int .i64 s.size) (.string ⟨#[]⟩))
      have HW := Lib.hid (fault_below ((((Below.refl w.heap.size w).alloc (Nat.le_refl _) (.cells #[.int .i64 0, .int .i64 0, .string ⟨#[]⟩] 30)).trans (H2.out.mono (Nat.le_succ _)))) (.int .i64 3) (.int .i64 s.size) (.string ⟨#[]⟩))
      (try simp only [Exit.inBlock, Exit.then])
      refine bodyPost_ret (results_ttc rfl _ _ w.heap.size 30 _ (0, 0) _ (by rfl) HG.out Tryd.underlying30 (by rfl) (by kernel_rfl)) rfl ?_
      exact ⟨by rw [← HR.out]; rfl, HW.out⟩
end Go.Proofs.YtiignmjglihbnaaDoor
