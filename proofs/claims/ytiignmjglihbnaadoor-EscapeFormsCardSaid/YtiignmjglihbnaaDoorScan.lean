/- Contract of escape.Scan. -/
import Derived.Test.YtiignmjglihbnaaDoorScan0
namespace Go.Proofs.YtiignmjglihbnaaDoor
open Go.RowKit Go.Lib
set_option linter.unusedVariables false

def SLRel (w : World) (s : ByteArray) (R : Except Nat (List Nat × Nat)) (v7 v8 : Value) (wr : World) : Prop :=
  ∃ (k f : Nat) (t : List Nat), v8 = .int .i64 k ∧ k ≤ s.size + 12 ∧ s.size + 12 < k + f ∧ t.length ≤ k ∧ ByteL t ∧ wr.ownsRow w.heap.size 5 1 v7 t.length (vals .u8 t) ∧ scanP (bt s) s.size f k t = R ∧ Below w.heap.size w wr

set_option maxRecDepth 100000 in
set_option maxHeartbeats 3000000 in
theorem scan_in (s : ByteArray) (hs : s.size ≤ 140737488351232) (n0 : Nat) (hn : n0 < s.size) (hq : s[n0].toNat = 34) (a : Nat → Addr) (w : World) (he : Errs w a) (hsh : Shorts w) (R : Except Nat (List Nat × Nat)) (hR : scanP (bt s) s.size (s.size + 20) (n0 + 1) [] = R) :
    Calls Tryd.prog 12 #[.string s, .int .i64 n0] w (ScanPost w a R) := by
  have HE := Lib.hid he
  have SH := Lib.hid hsh
  have HR := Lib.hid hR
  have HS := Lib.hid hs
  have a0 : ¬ ((n0 : Int) < 0) := by omega
  have a1 : ¬ ((s.size : Int) < (n0 : Int)) := by omega
  have a2 : ((n0 : Int) == (s.size : Int)) = false := by rw [beq_eq_false_iff_ne]; omega
  have a3 : (n0 : Int) < (s.size : Int) := by omega
  have e0 := Lib.hid (IntWalk.i64_in ((n0 : Int) + 1) (by omega))
  have e0 := e0.out
  clear he hsh hR hs
  obtain ⟨i0, hi, hz0, hz1, hz2⟩ := info_parts info_u8
  go_enter Tryd.func12, Tryd.ntmps12
  go_wp2_with fail
  go_loopw [4, 5, 6, 7, 8] (fun _ _ _ v7 v8 wr => SLRel w s R v7 v8 wr) (fun _ _ _ _ v8 _ => s.size - (intOf v8).toNat)
  case atStart => exact ⟨n0 + 1, s.size + 20, [], by go_num, by omega, by omega, Nat.zero_le _, (by intro x hx; cases hx), ⟨rfl, .inl ⟨rfl, rfl⟩⟩, HR.out, Below.refl _ _⟩
  case round =>
    obtain ⟨k, f, t, rfl, hk, hf, htl, hby, hown, hrun, hbel⟩ := hrel
    have HB := Lib.hid hbel
    have HO := Lib.hid hown
    have HTL := Lib.hid htl
    have HBY := Lib.hid hby
    have HF := Lib.hid hf
    have HSH := Lib.hid (SH.out.below HB.out)
    have HEW := Lib.hid (HE.out.below HB.out)
    obtain ⟨f, rfl⟩ : ∃ g, f = g + 1 := ⟨f - 1, by omega⟩
    rw [scanP] at hrun
    have HRUN := Lib.hid hrun
    clear hrun hbel hown htl hby hf a0 a1 a2 a3 e0
    have k0 : 0 ≤ (k : Int) := by omega
    by_cases hlt : k < s.size
    · have hrun := HRUN.out
      rw [if_neg (by omega)] at hrun
      have hlt' : (k : Int) < (s.size : Int) := by omega
      have hc := bt_lt hlt
      rw [bt_in hlt] at hc hrun
      have HBC := Lib.hid (bt_in hlt)
      clear HRUN
      generalize hcc : s[k].toNat = c at *
      by_cases h34 : c = 34
      · rw [if_pos h34] at hrun
        have HQ := Lib.hid hrun
        have z34 : ((c : Int) == 34) = true := by rw [beq_iff_eq]; omega
        obtain ⟨A, cp, rfl, -, -, -, -⟩ := own_rd HO.out
        have HCV := row_string_any HBY.out rfl HO.out
        have e1 := Lib.hid (IntWalk.i64_in ((k : Int) + 1) (by have := HS.out; omega))
        have e1 := e1.out
        clear hrun h34
        go_wp2_with fail
        go_ret3
        rw [← HQ.out]
        exact ⟨HB.out, rfl⟩
      · rw [if_neg h34] at hrun
        have z34 : ((c : Int) == 34) = false := by rw [beq_eq_false_iff_ne]; omega
        by_cases h92 : c = 92
        · have HPC : Hid (pieceN (bt s) s.size k = strokeN (fun j => bt s (k + j))) := Lib.hid (by unfold pieceN; rw [HBC.out, if_pos h92])
          have HST := Lib.hid (pstroke_any w.heap.size _ t (s.extract k s.size) (by simp; omega) wr HO.out (by have := HTL.out; have := HS.out; omega) HB.out.size HSH.out)
          rw [bt_extract s k (by omega)] at HST
          rw [HPC.out] at hrun
          have hle := strokeN_le (fun j => bt s (k + j))
          have z92 : ((c : Int) == 92) = true := by rw [beq_iff_eq]; omega
          have HBS : Hid (ByteL (strokeN (fun j => bt s (k + j))).1) := Lib.hid (strokeN_byte _)
          generalize strokeN (fun j => bt s (k + j)) = p at *
          obtain ⟨ys, n, ok⟩ := p
          have HLE := Lib.hid hle
          have HRN := Lib.hid hrun
          have e1 := Lib.hid (IntWalk.i64_in ((k : Int) + (n : Int)) (by have := HS.out; have := hle.1; simp only [] at this; omega))
          have e1 := e1.out
          clear hrun hle h92 h34
          go_wp2_with fail
          refine HST.out.mono ?_
          rintro e w2 ⟨v2, rfl, hown2, hb2, hs2⟩
          have HO2 := Lib.hid hown2
          have HB2 : Hid (Below w.heap.size w w2) := Lib.hid (HB.out.trans hb2)
          clear hown2 hb2 hs2 HST
          cases ok with
          | false =>
            have hrun := HRN.out
            rw [if_pos rfl] at hrun
            have HQ := Lib.hid hrun
            have BD := Lib.hid (fun wx (hb : Below w.heap.size w wx) => bad_err ((k + n : Nat) : Int) a wx (HE.out.below hb))
            rw [show (((k + n : Nat)) : Int) = (k : Int) + (n : Int) from by omega] at BD
            clear hrun HRN
            go_wp2_with fail
            refine (BD.out _ HB2.out).mono ?_
            rintro e w3 ⟨rfl, hf3, hb3⟩
            have HF3 := Lib.hid hf3
            have HB3 : Hid (Below w.heap.size w w3) := Lib.hid (HB2.out.trans (hb3.mono HB2.out.size))
            clear hf3 hb3
            go_wp2_with fail
            go_ret3
            rw [← HQ.out]
            exact ⟨HB3.out, w2.heap.size, rfl, HF3.out⟩
          | true =>
            have hrun := HRN.out
            rw [if_neg (show ¬ (true = false) from by decide)] at hrun
            have HQ := Lib.hid hrun
            clear hrun HRN
            go_wp2_with fail
            go_roundw
            case rel => exact ⟨k + n, f, t ++ ys, by go_num, by have := HLE.out.1; omega, by have := HF.out; have := HLE.out.2.1; omega, by have := HTL.out; have := HLE.out.2.2; rw [List.length_append]; omega, HBY.out.app HBS.out, HO2.out, HQ.out, HB2.out⟩
            case measure => have := HLE.out.2.1; simp [intOf]; omega
        · have z92 : ((c : Int) == 92) = false := by rw [beq_eq_false_iff_ne]; omega
          by_cases hmid : 32 ≤ c ∧ c ≤ 127
          · have HPC : Hid (pieceN (bt s) s.size k = ([c], 1, true)) := Lib.hid (by unfold pieceN; rw [HBC.out, if_neg h92, if_pos hmid])
            rw [HPC.out, if_neg (show ¬ (true = false) from by decide)] at hrun
            have HQ := Lib.hid hrun
            have HWI := Lib.hid (fun wx g hb => within_any c 32 127 g wx hb)
            rw [show decide (32 ≤ c ∧ c ≤ 127) = true from decide_eq_true hmid] at HWI
            have e1 := Lib.hid (IntWalk.i64_in ((k : Int) + 1) (by have := HS.out; omega))
            have e1 := e1.out
            have HC256 := Lib.hid hc
            clear hrun h92 h34 hmid hc
            have HBA : Hid (Below w.heap.size w (wr.alloc (.cells #[.int .u8 32, .int .u8 127] 5))) := Lib.hid (HB.out.alloc HB.out.size _)
            have HOA := Lib.hid (HO.out.alloc (.cells #[.int .u8 32, .int .u8 127] 5))
            go_wp2_with fail
            refine (HWI.out _ wr.heap.size (Blk.new _ _ _)).mono ?_
            rintro e w' ⟨rfl, hw⟩
            have hw := hw.symm
            generalize (wr.alloc (.cells #[.int .u8 32, .int .u8 127] 5)) = w1 at *
            subst hw
            have HP := Lib.hid (HOA.out.alloc (.cells #[.int .u8 c] 5))
            go_wp2_with (at_builtin; refine wpList_append_own _ rfl _ _ 49 rfl w.heap.size 5 i0 (.int .u8 0) 1 1 Tryd.underlying49 hi hz0 hz1 hz2 rfl (by decide) _ _ _ rfl HP.out ⟨w1.heap.size, 0, none⟩ 1 1 [.int .u8 c] rfl rfl ?c1 ?c2 ?c3 ?c4 ?c5 ?_)
            (try case c1 => exact World.news_of_block (cs := #[.int .u8 c]) (heap_alloc_new _ _))
            case c2 => first | rfl | exact one_mem [c]
            case c3 => unfold maxLen; have := HTL.out; have := HS.out; omega
            case c4 => have := HTL.out; have := HS.out; omega
            case c5 => have := HBA.out.size; simp; omega
            intro v2 w2 hown2 hg2 _
            have HO2 : Hid (w2.ownsRow w.heap.size 5 1 v2 (t ++ [c]).length (vals .u8 (t ++ [c]))) := Lib.hid (by rw [List.length_append, vals_append]; exact hown2)
            have HB2 : Hid (Below w.heap.size w w2) := Lib.hid ((HBA.out.alloc HBA.out.size _).grown hg2 (by have := HBA.out.size; simp; omega) (fun q hq => (HOA.out.lt q hq).1))
            clear hown2 hg2
            go_wp2_with fail
            go_roundw
            case rel => exact ⟨k + 1, f, t ++ [c], by go_num, by omega, by have := HF.out; omega, by have := HTL.out; rw [List.length_append]; show _ + 1 ≤ _; omega, HBY.out.app (.one HC256.out), HO2.out, HQ.out, HB2.out⟩
            case measure => simp [intOf]; omega
          · have HPC : Hid (pieceN (bt s) s.size k = (bytesAt (bt s) k (pointN (fun j => bt s (k + j)) (s.size - k)).1, (pointN (fun j => bt s (k + j)) (s.size - k)).1, (pointN (fun j => bt s (k + j)) (s.size - k)).2)) := Lib.hid (by unfold pieceN; rw [HBC.out, if_neg h92, if_neg hmid])
            rw [HPC.out] at hrun
            have HWI := Lib.hid (fun wx g hb => within_any c 32 127 g wx hb)
            rw [show decide (32 ≤ c ∧ c ≤ 127) = false from decide_eq_false hmid] at HWI
            have hse : (s.extract k s.size).size = s.size - k := by simp
            have HPO := Lib.hid (fun wx => spoint_any (s.extract k s.size) (by rw [hse]; omega) (by rw [hse]; have := HS.out; omega) wx)
            rw [bt_extract s k (by omega), hse] at HPO
            have hle := pointN_le (fun j => bt s (k + j)) (s.size - k) (by omega)
            generalize pointN (fun j => bt s (k + j)) (s.size - k) = p at *
            obtain ⟨n, ok⟩ := p
            simp only [] at hle hrun
            have hns : k + n ≤ s.size := by have := hle.1; omega
            have hns' : (k : Int) + (n : Int) ≤ (s.size : Int) := by omega
            have HNS := Lib.hid hns
            have HLE := Lib.hid hle
            have HRN := Lib.hid hrun
            have HXC := Lib.hid (ext_cells s k n hns)
            have HXS : Hid ((s.extract k (k + n)).size = n) := Lib.hid (by simp; omega)
            have HXB := Lib.hid (bytesAt_byte s k n hns)
            have HXL := Lib.hid (bytesAt_len (bt s) k n)
            have e1 := Lib.hid (IntWalk.i64_in ((k : Int) + (n : Int)) (by have := HS.out; omega))
            have e1 := e1.out
            have n0' : 0 ≤ (n : Int) := by omega
            clear hrun hle h92 h34 hmid hse hns
            have HBA : Hid (Below w.heap.size w (wr.alloc (.cells #[.int .u8 32, .int .u8 127] 5))) := Lib.hid (HB.out.alloc HB.out.size _)
            have HOA := Lib.hid (HO.out.alloc (.cells #[.int .u8 32, .int .u8 127] 5))
            go_wp2_with fail
            refine (HWI.out _ wr.heap.size (Blk.new _ _ _)).mono ?_
            rintro e w' ⟨rfl, hw⟩
            have hw := hw.symm
            generalize (wr.alloc (.cells #[.int .u8 32, .int .u8 127] 5)) = w1 at *
            subst hw
            go_wp2_with fail
            refine (HPO.out _).mono ?_
            rintro e w4 ⟨rfl, hb4⟩
            have HB4 : Hid (Below w.heap.size w w4) := Lib.hid (HBA.out.trans (hb4.mono HBA.out.size))
            have HOW4 := Lib.hid (own_below HOA.out hb4)
            clear hb4 HPO
            go_upto_region 11 with fail
            go_wp2_with (at_builtin; refine wpList_append_own_string _ rfl _ _ 49 9 rfl w.heap.size 5 i0 Tryd.underlying49 Tryd.underlying9 hi hz0 hz1 hz2 _ t.length (vals .u8 t) rfl HOW4.out (s.extract k (k + n)) rfl ?c1 ?c2 ?c3 ?_)
            case c1 => unfold maxLen; have := HTL.out; have := HXS.out; have := HS.out; have := HLE.out.2.1; omega
            case c2 => have := HTL.out; have := HXS.out; have := HS.out; have := HLE.out.2.1; omega
            case c3 => exact HB4.out.size
            intro v2 w2 hown2 hg2 _
            have HO2 : Hid (w2.ownsRow w.heap.size 5 1 v2 (t ++ bytesAt (bt s) k n).length (vals .u8 (t ++ bytesAt (bt s) k n))) := Lib.hid (by
              have hmn : min (k + n) s.size - k = n := by have := HNS.out; omega
              rw [HXC.out, hmn] at hown2
              rw [List.length_append, HXL.out, vals_append]
              exact hown2)
            have HB2 : Hid (Below w.heap.size w w2) := Lib.hid (HB4.out.grown hg2 HB4.out.size (fun q hq => (HOW4.out.lt q hq).1))
            clear hown2 hg2
            cases ok with
            | false =>
              have hrun := HRN.out
              rw [if_pos rfl] at hrun
              have HQ := Lib.hid hrun
              have BD := Lib.hid (fun wx (hb : Below w.heap.size w wx) => bad_err ((k + n : Nat) : Int) a wx (HE.out.below hb))
              rw [show (((k + n : Nat)) : Int) = (k : Int) + (n : Int) from by omega] at BD
              clear hrun HRN
              go_wp2_with fail
              refine (BD.out _ HB2.out).mono ?_
              rintro e w3 ⟨rfl, hf3, hb3⟩
              have HF3 := Lib.hid hf3
              have HB3 : Hid (Below w.heap.size w w3) := Lib.hid (HB2.out.trans (hb3.mono HB2.out.size))
              clear hf3 hb3
              go_wp2_with fail
              go_ret3
              rw [← HQ.out]
              exact ⟨HB3.out, w2.heap.size, rfl, HF3.out⟩
            | true =>
              have hrun := HRN.out
              rw [if_neg (show ¬ (true = false) from by decide)] at hrun
              have HQ := Lib.hid hrun
              clear hrun HRN
              go_wp2_with fail
              go_roundw
              case rel => exact ⟨k + n, f, t ++ bytesAt (bt s) k n, by go_num, by have := HNS.out; omega, by have := HF.out; have := HLE.out.2.2 rfl; omega, by have := HTL.out; rw [List.length_append, HXL.out]; omega, HBY.out.app HXB.out, HO2.out, HQ.out, HB2.out⟩
              case measure => have := HLE.out.2.2 rfl; simp [intOf]; omega
    · have hrun := HRUN.out
      rw [if_pos (by omega)] at hrun
      have HQ := Lib.hid hrun
      have hlt' : ¬ ((k : Int) < (s.size : Int)) := by omega
      have BD := Lib.hid (bad_err (s.size : Int) a wr HEW.out)
      clear hrun HRUN
      go_wp2_with fail
      refine BD.out.mono ?_
      rintro e w2 ⟨rfl, hf2, hb2⟩
      have HF2 := Lib.hid hf2
      have HB2 : Hid (Below w.heap.size w w2) := Lib.hid (HB.out.trans (hb2.mono HB.out.size))
      clear hf2 hb2
      go_wp2_with fail
      go_ret3
      rw [← HQ.out]
      exact ⟨HB2.out, wr.heap.size, rfl, HF2.out⟩

set_option maxRecDepth 100000 in
theorem scan_out (s : ByteArray) (n0 : Nat) (hn : n0 ≤ s.size) (hq : s.size ≤ n0 ∨ bt s n0 ≠ 34) (a : Nat → Addr) (w : World) (he : Errs w a) :
    Calls Tryd.prog 12 #[.string s, .int .i64 n0] w (ScanPost w a (.error n0)) := by
  have BD := Lib.hid (bad_err (n0 : Int) a w he)
  have a0 : ¬ ((n0 : Int) < 0) := by omega
  have a1 : ¬ ((s.size : Int) < (n0 : Int)) := by omega
  by_cases h : n0 < s.size
  · have a2 : ((n0 : Int) == (s.size : Int)) = false := by rw [beq_eq_false_iff_ne]; omega
    have a3 : (n0 : Int) < (s.size : Int) := by omega
    have hc : s[n0].toNat ≠ 34 := by
      rcases hq with k | k
      · omega
      · rwa [bt_in h] at k
    generalize hcc : s[n0].toNat = c at *
    have z : ((c : Int) != 34) = true := by rw [bne_iff_ne]; omega
    clear hq hc
    go_enter Tryd.func12, Tryd.ntmps12
    go_wp2_with fail
    refine BD.out.mono ?_
    rintro e w2 ⟨rfl, hf2, hb2⟩
    have HF2 := Lib.hid hf2
    have HB2 := Lib.hid hb2
    clear hf2 hb2
    go_wp2_with fail
    go_ret3
    exact ⟨HB2.out, w.heap.size, rfl, HF2.out⟩
  · obtain rfl : n0 = s.size := by omega
    clear hq
    go_enter Tryd.func12, Tryd.ntmps12
    go_wp2_with fail
    refine BD.out.mono ?_
    rintro e w2 ⟨rfl, hf2, hb2⟩
    have HF2 := Lib.hid hf2
    have HB2 := Lib.hid hb2
    clear hf2 hb2
    go_wp2_with fail
    go_ret3
    exact ⟨HB2.out, w.heap.size, rfl, HF2.out⟩

theorem scan_at (s : ByteArray) (hs : s.size ≤ 140737488351232) (n0 : Nat) (hn : n0 ≤ s.size) (a : Nat → Addr) (w : World) (he : Errs w a) (hsh : Shorts w) :
    Calls Tryd.prog 12 #[.string s, .int .i64 n0] w (ScanPost w a (scanQ s n0)) := by
  unfold scanQ
  by_cases h : s.size ≤ n0 ∨ bt s n0 ≠ 34
  · rw [if_pos h]; exact scan_out s n0 hn h a w he
  · rw [if_neg h]
    have h1 : n0 < s.size := by omega
    exact scan_in s hs n0 h1 (by have : bt s n0 = 34 := by omega
                                 rwa [bt_in h1] at this) a w he hsh _ rfl

set_option maxRecDepth 100000 in
theorem scan_arg (s : ByteArray) (n : Int) (hn : n < 0 ∨ (s.size : Int) < n) (a : Nat → Addr) (w : World) (he : Errs w a) :
    Calls Tryd.prog 12 #[.string s, .int .i64 n] w fun e w' => e = .returned (.tuple #[.string ⟨#[]⟩, .int .i64 0, .iface 118 (.pointer (some (a 0)))]) ∧ Below w.heap.size w w' := by
  have s0 := he.sen 0 (by decide)
  simp only [Nat.zero_add] at s0
  clear he
  rcases hn with h | h
  · go_enter Tryd.func12, Tryd.ntmps12
    go_upto_region 2 with fail
    go_region_law (fail)
    all_goals
      go_wp2_with fail
      go_ret3
      exact ⟨rfl, below_drewN' (Below.refl _ _) 1⟩
  · have h' : ¬ (n < 0) := by omega
    go_enter Tryd.func12, Tryd.ntmps12
    go_upto_region 2 with fail
    go_region_law (fail)
    all_goals
      go_wp2_with fail
      go_ret3
      exact ⟨rfl, below_drewN' (Below.refl _ _) 1⟩
end Go.Proofs.YtiignmjglihbnaaDoor
