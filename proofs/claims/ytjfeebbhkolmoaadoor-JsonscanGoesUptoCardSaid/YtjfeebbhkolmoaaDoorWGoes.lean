/- The walk of cruciblelaw16.JsonscanGoes. -/
import Derived.Test.YtjfeebbhkolmoaaDoorWGoes0
namespace Go.Proofs.YtjfeebbhkolmoaaDoor
open Go.RowKit
set_option linter.unusedVariables false

theorem prd_prefix (s : ByteArray) (m : Nat) (hm : m ≤ s.size) : prd (s.extract 0 m) = pwrite Sc0 ((bnat s).take m) := by
  have h := bnat_extract s 0 m (by omega)
  rw [Nat.zero_add, List.take_zero, List.nil_append] at h
  unfold prd; rw [h]

set_option maxRecDepth 100000 in
set_option maxHeartbeats 2000000 in
theorem wgoes (s : ByteArray) (hs : s.size ≤ 1048576) (c : Int) (hc : (Lit.int .u16 c).wf = true) (a : Nat → Addr) (w : World) (he : Errs w a) :
    Calls Tryd.prog 7 #[.string s, .int .u16 c] w fun e w' => e = .returned (.bool true) ∧ Below w.heap.size w w' := by
  have hmin : IntKind.u16.min = 0 := rfl
  have hmax : IntKind.u16.max = 65535 := rfl
  simp only [Lit.wf, Bool.and_eq_true, decide_eq_true_eq, hmin, hmax] at hc
  obtain ⟨hc1, hc2⟩ := hc
  have HE := Lib.hid he
  have HL := Lib.hid (lives_any a w he)
  clear he hmin hmax
  by_cases hbig : 1000 < s.size
  · have hb : 1000 < (s.size : Int) := by omega
    go_enter Tryd.func7, Tryd.ntmps7
    go_wp2_with fail
    refine HL.out.mono ?_
    rintro e w1 ⟨rfl, hb1⟩
    have HB1 := Lib.hid hb1
    clear hb1
    go_wp2_with fail
    go_ret
    exact ⟨rfl, HB1.out⟩
  have hb : ¬ 1000 < (s.size : Int) := by omega
  have HRD := Lib.hid (fun wx (hb : Below w.heap.size w wx) => read_any wx s a (HE.out.below hb) (by omega))
  have hpart := write_good_part Sc0 (bnat s) rfl
  rw [bnat_len] at hpart
  obtain ⟨m, hm1, hm2, hm3⟩ := hpart
  rw [← prd_prefix s m hm1] at hm3
  have hm2 : (prd s).size = (m : Int) := by
    have h : (prd s).size = (0 : Int) + m := hm2
    omega
  have hex : (s.extract 0 m).size ≤ 1000 := by simp; omega
  have HCM := Lib.hid (fun wx (hb : Below w.heap.size w wx) => complete_any (s.extract 0 m) hex hm3 a wx (HE.out.below hb))
  by_cases hpc : pclose (prd s) = 0
  · have hbad : (prd s).bad = 0 := by
      by_cases h : (prd s).bad = 0
      · exact h
      · unfold pclose at hpc; rw [if_neg h] at hpc; exact absurd hpc h
    have hfull := (write_full Sc0 (bnat s) hbad).2
    rw [bnat_len] at hfull
    have hfull : (prd s).size = (s.size : Int) := by
      have h : (prd s).size = (0 : Int) + s.size := hfull
      omega
    obtain ⟨n, hn⟩ : ∃ n : Nat, c % ((s.size : Int) + 1) = (n : Int) := ⟨(c % ((s.size : Int) + 1)).toNat, by have := Int.emod_nonneg c (show (s.size : Int) + 1 ≠ 0 by omega); omega⟩
    have hn2 : n ≤ s.size := by have := Int.emod_lt_of_pos c (show 0 < (s.size : Int) + 1 by omega); omega
    have hgn : (prd (s.extract 0 n)).bad = 0 := by
      rw [prd_prefix s n hn2]
      by_cases h : (pwrite Sc0 ((bnat s).take n)).bad = 0
      · exact h
      · have h2 := pwrite_take_bad Sc0 (bnat s) n h
        have h3 : prd s = pwrite Sc0 ((bnat s).take n) := h2
        rw [h3] at hbad; exact absurd hbad h
    have hgs : (prd (s.extract 0 n)).size = (n : Int) := by
      have h := (write_full Sc0 _ hgn).2
      rw [bnat_len] at h
      have h : (prd (s.extract 0 n)).size = (0 : Int) + ((s.extract 0 n).size : Int) := h
      rw [h]; simp; omega
    have hexn : (s.extract 0 n).size ≤ 1000 := by simp; omega
    have HCN := Lib.hid (fun wx (hb : Below w.heap.size w wx) => complete_any (s.extract 0 n) hexn hgn a wx (HE.out.below hb))
    have HRN := Lib.hid (fun wx (hb : Below w.heap.size w wx) => read_any wx (s.extract 0 n) a (HE.out.below hb) (by omega))
    unfold RdPost at HRD HRN
    rw [hpc, hfull] at HRD
    rw [hgs] at HRN
    clear hpc hbad hfull hgn hgs hexn hex hm1 hm2 hm3 hbig HCM
    have hn3 : (n : Int) ≤ (s.size : Int) := by omega
    go_enter Tryd.func7, Tryd.ntmps7
    go_wp2_with fail
    refine HL.out.mono ?_
    rintro e w1 ⟨rfl, hb1⟩
    have HB1 := Lib.hid hb1
    clear hb1
    go_wp2_with fail
    refine (HRD.out w1 HB1.out).mono ?_
    rintro e w2 ⟨v, rfl, hv, hb2⟩
    obtain rfl := err_nil hv
    have HB2 : Hid (Below w.heap.size w w2) := Lib.hid (HB1.out.trans (hb2.mono HB1.out.size))
    clear hv hb2
    go_wp2_with fail
    refine (HRN.out w2 HB2.out).mono ?_
    rintro e w3 ⟨v, rfl, -, hb3⟩
    have HB3 : Hid (Below w.heap.size w w3) := Lib.hid (HB2.out.trans (hb3.mono HB2.out.size))
    clear hb3
    go_wp2_with fail
    refine (HCN.out w3 HB3.out).mono ?_
    rintro e w4 ⟨rfl, hb4⟩
    have HB4 : Hid (Below w.heap.size w w4) := Lib.hid (HB3.out.trans (hb4.mono HB3.out.size))
    clear hb4
    go_wp2_with fail
    go_ret
    exact ⟨rfl, HB4.out⟩
  · have hok := pclose_ok (prd s) (prd_good s).1
    have hK := okc_lt hok hpc
    have HPC := Lib.hid hpc
    have HM1 := Lib.hid hm1
    unfold RdPost at HRD
    rw [hm2] at HRD
    have hm4 : (m : Int) ≤ (s.size : Int) := by omega
    clear hpc hok hm1 hm2 hm3 hex hbig
    go_enter Tryd.func7, Tryd.ntmps7
    go_wp2_with fail
    refine HL.out.mono ?_
    rintro e w1 ⟨rfl, hb1⟩
    have HB1 := Lib.hid hb1
    clear hb1
    go_wp2_with fail
    refine (HRD.out w1 HB1.out).mono ?_
    rintro e w2 ⟨v, rfl, hv, hb2⟩
    obtain ⟨gf, -, rfl, hff⟩ := err_some HPC.out hv
    have HB2 : Hid (Below w.heap.size w w2) := Lib.hid (HB1.out.trans (hb2.mono HB1.out.size))
    have HA := Lib.hid (at_fault gf m a w2 _ hK (HE.out.below HB2.out) hff)
    clear hv hb2 hff
    go_wp2_with fail
    refine HA.out.mono ?_
    rintro e w3 ⟨rfl, hb3⟩
    have HB3 : Hid (Below w.heap.size w w3) := Lib.hid (HB2.out.trans (hb3.mono HB2.out.size))
    clear hb3
    go_wp2_with fail
    refine (HCM.out w3 HB3.out).mono ?_
    rintro e w4 ⟨rfl, hb4⟩
    have HB4 : Hid (Below w.heap.size w w4) := Lib.hid (HB3.out.trans (hb4.mono HB3.out.size))
    clear hb4
    go_wp2_with fail
    go_ret
    exact ⟨rfl, HB4.out⟩
end Go.Proofs.YtjfeebbhkolmoaaDoor
