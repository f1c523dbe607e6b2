/- The walk of cruciblelaw16.JsonscanLiterals. -/
import Derived.Test.YtjfeebbhkolmoaaDoorJl1
import Derived.Test.YtjfeebbhkolmoaaDoorJsC
import Derived.Test.YtjfeebbhkolmoaaDoorJsD
import Derived.Test.YtjfeebbhkolmoaaDoorJErrs
import Derived.Test.YtjfeebbhkolmoaaDoorOpenB
namespace Go.Proofs.YtjfeebbhkolmoaaDoor.E
open Go.RowKit
set_option linter.unusedVariables false

theorem errs_of_laid13 {W : World} (h : laidMetH Tryd.prog Rows.jsonscanLiteralsUptoRow.laid W) : (∃ a, Errs W a) ∧ Shorts W := by
  have h' : laidMet Tryd.prog (Rows.jsonscanLiteralsUptoRow.laid.filter fun x => x.2.handleName?.isNone) W ∧ handlesMet Tryd.prog [("errors.errorType", Rows.laid_errors_errorType)] W := h
  obtain ⟨h1, h2⟩ := errs_core h'.1 h'.2
  exact ⟨h1, shorts_of_laid h2⟩
def qS (s0 : ByteArray) : ByteArray := (⟨#[34]⟩ : ByteArray) ++ s0
theorem qS_size (s0 : ByteArray) : (qS s0).size = s0.size + 1 := by
  unfold qS
  rw [ByteArray.size_append]
  show 1 + s0.size = _
  omega
theorem qS_0 (s0 : ByteArray) : bt (qS s0) 0 = 34 := by
  have h := qS_size s0
  rw [bt_bnat _ 0 (by omega)]
  unfold qS
  rw [bnat_app]
  rfl
theorem bnat_app2 (x y z : ByteArray) : bnat (x ++ y ++ z) = bnat x ++ bnat y ++ bnat z := by rw [bnat_app, bnat_app]
def wsS : ByteArray := ⟨#[32, 9, 10, 13]⟩
theorem ws_piece : ∀ i : Fin 4, (∀ c ∈ bnat (wsS.extract i.val (i.val + 1)), blankB c = true) ∧ (wsS.extract i.val (i.val + 1)).size = 1 := by decide +kernel
/-- the loop over blanks -/
def BRel (s : ByteArray) (j : Nat) (w1 : World) (v6 : Value) (wr : World) : Prop := ∃ n : Nat, j ≤ n ∧ n ≤ s.size ∧ v6 = .int .i64 n ∧ (∀ i, j ≤ i → i < n → blankB (bt s i) = true) ∧ wr = w1
def WhRel (N : Nat) (w1 : World) (v13 v14 : Value) (wr : World) : Prop := ∃ W : ByteArray, W.size ≤ N ∧ v13 = .string W ∧ v14 = .int .i64 W.size ∧ (∀ c ∈ bnat W, blankB c = true) ∧ wr = w1

set_option maxRecDepth 100000 in
set_option maxHeartbeats 3000000 in
theorem wlits (s0 : ByteArray) (hs : s0.size ≤ 1048576) (bl : Int) (hbl : (Lit.int .u8 bl).wf = true) (a : Nat → Addr) (w : World) (he : Errs w a) (hsh : Shorts w) :
    Calls Tryd.prog 10 #[.string s0, .int .u8 bl] w fun e w' => e = .returned (.bool true) ∧ Below w.heap.size w w' := by
  obtain ⟨blanks, rfl, hblt⟩ := u8_arg hbl
  have HE := Lib.hid he
  have HS := Lib.hid (fun wx (hb : Below w.heap.size w wx) => hsh.below hb)
  have hz := qS_size s0
  have HSC := Lib.hid (fun wx (hb : Below w.heap.size w wx) => scan_at (qS s0) (by omega) 0 (Nat.zero_le _) a wx (he.below hb) (hsh.below hb))
  have HRD := Lib.hid (fun wx (hb : Below w.heap.size w wx) => read_any wx (qS s0) a (he.below hb) (by omega))
  have HLV := Lib.hid (lives_any a w he)
  have HLAW := Lib.hid (law_lit (qS s0) (by omega) (qS_0 s0) Sc0 sc0_val)
  have HQ : Hid (∀ x, x = (⟨#[34]⟩ : ByteArray) ++ s0 → x = qS s0) := Lib.hid (fun x h => h)
  have hsI : ¬ (1048576 : Int) < (s0.size : Int) := by omega
  clear he hsh hbl
  go_enter Tryd.func10, Tryd.ntmps10
  go_wp2_with fail
  refine HLV.out.mono ?_
  rintro e w1 ⟨rfl, hb1⟩
  have HB1 := Lib.hid hb1
  clear hb1
  go_wp2_with fail
  have HPOS : Hid (0 < (qS s0).size) := Lib.hid (by omega)
  have HALL := Lib.hid (fun p hp => law_lit (qS s0) HPOS.out (qS_0 s0) p hp)
  have hS : (⟨#[34]⟩ : ByteArray) ++ s0 = qS s0 := rfl
  rw [hS]
  have hsz : (qS s0).size ≤ 1048577 := by omega
  clear hS hz hs HQ
  clear hsI
  generalize qS s0 = s at *
  have HR1 := Lib.hid (HSC.out w1 HB1.out)
  unfold ScanPost at HR1
  obtain ⟨R, hR⟩ : ∃ R, scanQ s 0 = R := ⟨_, rfl⟩
  rw [hR] at HR1 HLAW
  simp only [hR] at HALL
  have HPR : Hid (okCode (pclose (prd s))) := Lib.hid (pclose_ok _ (prd_good s).1)
  have HSR := Lib.hid hR
  clear HSC hR
  match R with
  | .error j =>
    simp only [] at HR1 HLAW
    obtain ⟨l1, l2, l3⟩ := HLAW.out
    have hsz0 : (prd s).size = (j : Int) := by
      have h1 : (prd s).size = Sc0.size + (j : Int) := l3
      have h2 : Sc0.size = 0 := rfl
      omega
    have hpc : pclose (prd s) = 3 := l2
    have HRD2 := Lib.hid (fun wx (hb : Below w.heap.size w wx) => HRD.out wx hb)
    unfold RdPost at HRD2
    rw [hsz0, hpc] at HRD2
    clear l1 l2 l3 HLAW hsz0 hpc HRD HALL
    refine HR1.out.mono ?_
    rintro e w2 ⟨hb2, g, rfl, hf2⟩
    have HB2 : Hid (Below w.heap.size w w2) := Lib.hid (HB1.out.trans (hb2.mono HB1.out.size))
    have HF2 := Lib.hid hf2
    clear hb2 hf2
    go_wp2_with fail
    refine (HRD2.out w2 HB2.out).mono ?_
    rintro e w3 ⟨v, rfl, hv, hb3⟩
    obtain ⟨gf, -, rfl, hff⟩ := err_some (by decide) hv
    have HB3 : Hid (Below w.heap.size w w3) := Lib.hid (HB2.out.trans (hb3.mono HB2.out.size))
    have HF3 : Hid (FaultB w3 g (a 2) j) := Lib.hid (Blk.below HF2.out hb3 (Blk.lt HF2.out))
    have HFF := Lib.hid hff
    clear hv hb3 hff
    go_wp2_with fail
    refine (at_fault g j a w3 2 (by decide) (HE.out.below HB3.out) HF3.out).mono ?_
    rintro e w4 ⟨rfl, hb4⟩
    have HB4 : Hid (Below w.heap.size w w4) := Lib.hid (HB3.out.trans (hb4.mono HB3.out.size))
    have HI := Lib.hid (isAt_3 gf j a w4 (HE.out.below HB4.out) (Blk.below HFF.out hb4 (Blk.lt HFF.out)) j)
    rw [beq_self_eq_true] at HI
    clear hb4
    go_wp2_with fail
    refine HI.out.mono ?_
    rintro e w5 ⟨rfl, hb5⟩
    have HB5 : Hid (Below w.heap.size w w5) := Lib.hid (HB4.out.trans (hb5.mono HB4.out.size))
    clear hb5
    go_wp2_with fail
    go_ret
    exact ⟨by simp, HB5.out⟩
  | .ok (tx, j) =>
    simp only [] at HR1 HLAW HALL
    obtain ⟨l1, l2, l3⟩ := HLAW.out
    have L2 := Lib.hid l2
    have L3 := Lib.hid l3
    have HRD2 := Lib.hid (fun wx (hb : Below w.heap.size w wx) => HRD.out wx hb)
    clear l2 l3 HLAW HRD
    refine HR1.out.mono ?_
    rintro e w2 ⟨hb2, rfl⟩
    have HB2 : Hid (Below w.heap.size w w2) := Lib.hid (HB1.out.trans (hb2.mono HB1.out.size))
    clear hb2 HR1
    go_wp2_with fail
    refine (HRD2.out w2 HB2.out).mono ?_
    rintro e w3 ⟨v, rfl, hv, hb3⟩
    have HV := Lib.hid hv
    have HB3 : Hid (Below w.heap.size w w3) := Lib.hid (HB2.out.trans (hb3.mono HB2.out.size))
    clear hv hb3 HRD2
    generalize strOf tx = T at *
    generalize hst : prd s = st at *
    have HST := Lib.hid hst
    clear hst
    have hj : (j : Int) ≤ (s.size : Int) := by omega
    go_wp2_with fail
    go_loopw [6] (fun v6 wr => BRel s j w3 v6 wr) (fun v6 _ => s.size - (intOf v6).toNat)
    case atStart => exact ⟨j, Nat.le_refl _, l1, rfl, fun i h1 h2 => by omega, rfl⟩
    case round =>
      obtain ⟨n, n1, n2, rfl, nb, rfl⟩ := hrel
      have NB := Lib.hid nb
      clear nb
      have hn0 : 0 ≤ (n : Int) := by omega
      by_cases hlt : n < s.size
      · have hbt := bt_in hlt
        have hnI : (n : Int) < (s.size : Int) := by omega
        by_cases hbl : blankB (bt s n) = true
        · have hcase : (s[n]'hlt).toNat = 32 ∨ (s[n]'hlt).toNat = 9 ∨ (s[n]'hlt).toNat = 10 ∨ (s[n]'hlt).toNat = 13 := by
            unfold blankB at hbl
            rw [hbt] at hbl
            simp at hbl
            omega
          have NB2 : Hid (∀ i, j ≤ i → i < n + 1 → blankB (bt s i) = true) := Lib.hid (fun i h1 h2 => by
            by_cases h3 : i < n
            · exact NB.out i h1 h3
            · have : i = n := by omega
              subst this; exact hbl)
          clear hbl hbt
          rcases hcase with hc | hc | hc | hc
          all_goals
            have hcI : (((s[n]'hlt).toNat : Nat) : Int) = _ := congrArg (Nat.cast : Nat → Int) hc
            clear hc
            go_wp2_with fail
            go_roundw
            case rel => exact ⟨n + 1, by omega, hlt, by go_num, NB2.out, rfl⟩
            case measure => simp [intOf]; omega
        · have hcase : (s[n]'hlt).toNat ≠ 32 ∧ (s[n]'hlt).toNat ≠ 9 ∧ (s[n]'hlt).toNat ≠ 10 ∧ (s[n]'hlt).toNat ≠ 13 := by
            unfold blankB at hbl
            rw [hbt] at hbl
            simp at hbl
            omega
          obtain ⟨e1, e2, e3⟩ := law_behind s Sc0 j n n1 n2 L2.out L3.out NB.out
          obtain ⟨e4, e5⟩ := e3 hlt hbl
          have hpc : pclose st = 3 := by rw [← HST.out]; exact e4
          have hsz0 : st.size = (n : Int) := by
            rw [← HST.out]
            have h1 : (prd s).size = Sc0.size + (n : Int) := e5
            have h2 : Sc0.size = 0 := rfl
            omega
          rw [hpc, hsz0] at HV
          obtain ⟨gf, -, rfl, hff⟩ := err_some (by decide) HV.out
          have HI := Lib.hid (isAt_3 gf n a wr (HE.out.below HB3.out) hff n)
          rw [beq_self_eq_true] at HI
          have q1 : ((((s[n]'hlt).toNat : Nat) : Int) == 32) = false := eqF (by omega)
          have q2 : ((((s[n]'hlt).toNat : Nat) : Int) == 9) = false := eqF (by omega)
          have q3 : ((((s[n]'hlt).toNat : Nat) : Int) == 10) = false := eqF (by omega)
          have q4 : ((((s[n]'hlt).toNat : Nat) : Int) == 13) = false := eqF (by omega)
          rw [hsz0]
          clear hcase hbl hbt e1 e2 e3 e4 e5 hpc hsz0 hff HV
          go_wp2_with fail
          refine HI.out.mono ?_
          rintro e w5 ⟨rfl, hb5⟩
          have HB5 : Hid (Below w.heap.size w w5) := Lib.hid (HB3.out.trans (hb5.mono HB3.out.size))
          clear hb5
          go_wp2_with fail
          go_ret
          exact ⟨by simp, HB5.out⟩
      · obtain ⟨e1, e2, -⟩ := law_behind s Sc0 j n n1 n2 L2.out L3.out NB.out
        have hns : n = s.size := by omega
        rw [List.take_of_length_le (by rw [bnat_len]; omega)] at e1 e2
        have hpc : pclose st = 0 := by rw [← HST.out]; exact end_close e1
        have hsz0 : st.size = (s.size : Int) := by
          rw [← HST.out]
          have h1 : (prd s).size = Sc0.size + (n : Int) := e2
          have h2 : Sc0.size = 0 := rfl
          omega
        rw [hpc] at HV
        obtain rfl := err_nil HV.out
        subst hns
        rw [hsz0]
        have HALL2 : Hid (∀ W : ByteArray, (∀ c ∈ bnat W, blankB c = true) → pclose (prd (W ++ s ++ W)) = 0 ∧ (prd (W ++ s ++ W)).size = (s.size : Int) + 2 * W.size) := Lib.hid (fun W hW => by
          obtain ⟨v1, v2⟩ := val_blanks (bnat W) Sc0 sc0_val hW
          obtain ⟨h1, h2, h3⟩ := HALL.out _ v1
          obtain ⟨g1, g2, -⟩ := law_behind s _ j s.size l1 (Nat.le_refl _) h2 h3 NB.out
          rw [List.take_of_length_le (by rw [bnat_len]; omega)] at g1 g2
          obtain ⟨k1, k2⟩ := end_blanks (bnat W) _ g1 hW
          have he : prd (W ++ s ++ W) = pwrite (pwrite (pwrite Sc0 (bnat W)) (bnat s)) (bnat W) := by
            unfold prd
            rw [bnat_app2, pwrite_app, pwrite_app]
          rw [he]
          refine ⟨end_close k1, ?_⟩
          rw [k2, g2, v2, bnat_len]
          have h2 : Sc0.size = 0 := rfl
          omega)
        obtain ⟨N, hN, hNl⟩ : ∃ N : Nat, (blanks : Int).tmod 8 = (N : Int) ∧ N < 8 := ⟨blanks % 8, by rw [Int.tmod_eq_emod_of_nonneg (by omega)]; omega, by omega⟩
        clear e1 e2 hpc hsz0 HV HALL hlt n1 n2 NB hn0
        have hb256 : (blanks : Int) < 256 := by omega
        go_wp2_with fail
        go_loopw [13, 14] (fun v13 v14 wr2 => WhRel N wr v13 v14 wr2) (fun _ v14 _ => N - (intOf v14).toNat)
        case atStart => exact ⟨⟨#[]⟩, Nat.zero_le _, rfl, rfl, fun c hc => (by cases hc), rfl⟩
        case round =>
          obtain ⟨W, w1', rfl, rfl, wb, rfl⟩ := hrel
          have WB := Lib.hid wb
          clear wb
          have hW8 : (W.size : Int) ≤ 8 := by omega
          have hW0 : 0 ≤ (W.size : Int) := by omega
          by_cases hlt : W.size < N
          · have hltI : (W.size : Int) < (N : Int) := by omega
            obtain ⟨q, hq, hq4⟩ : ∃ q : Nat, (W.size : Int).tmod 4 = (q : Int) ∧ q < 4 := ⟨W.size % 4, by rw [Int.tmod_eq_emod_of_nonneg (by omega)]; omega, by omega⟩
            have hpc := ws_piece ⟨q, hq4⟩
            simp only [] at hpc
            have PC : Hid ((∀ c ∈ bnat (W ++ wsS.extract q (q + 1)), blankB c = true) ∧ (W ++ wsS.extract q (q + 1)).size = W.size + 1) := Lib.hid ⟨fun c hc => by
              rw [bnat_app] at hc
              rcases List.mem_append.1 hc with hc | hc
              · exact WB.out c hc
              · exact hpc.1 c hc, by rw [ByteArray.size_append, hpc.2]⟩
            unfold wsS at PC
            clear hpc
            have hq : q = 0 ∨ q = 1 ∨ q = 2 ∨ q = 3 := by omega
            rcases hq with rfl | rfl | rfl | rfl
            all_goals
              go_wp2_with fail
              go_roundw
              case rel => exact ⟨_, by rw [PC.out.2]; exact hlt, rfl, by rw [PC.out.2]; go_num, PC.out.1, rfl⟩
              case measure => simp [intOf]; omega
          · obtain ⟨a1, a2⟩ := HALL2.out W WB.out
            have HR3 := Lib.hid (read_any wr (W ++ s ++ W) a (HE.out.below HB3.out) (by rw [ByteArray.size_append, ByteArray.size_append]; omega))
            unfold RdPost at HR3
            rw [a1, a2] at HR3
            clear a1 a2
            go_wp2_with fail
            refine HR3.out.mono ?_
            rintro e w5 ⟨v5, rfl, hv5, hb5⟩
            obtain rfl := err_nil hv5
            have HB5 : Hid (Below w.heap.size w w5) := Lib.hid (HB3.out.trans (hb5.mono HB3.out.size))
            clear hb5 hv5
            go_wp2_with fail
            go_ret
            exact ⟨by simp, HB5.out⟩
end Go.Proofs.YtjfeebbhkolmoaaDoor.E
