/- The walk of cruciblelaw16.complete. -/
import Derived.Test.YtjfeebbhkolmoaaDoorJsG
namespace Go.Proofs.YtjfeebbhkolmoaaDoor
open Go.RowKit
set_option linter.unusedVariables false

theorem bnat_app' (x y : ByteArray) : bnat (x ++ y) = bnat x ++ bnat y := by unfold bnat; simp
theorem prd_snoc (t M : ByteArray) (m : Nat) (hM : bnat M = [m]) : prd (t ++ M) = pfeed (prd t) m := by
  unfold prd; rw [bnat_app', hM, pwrite_app]; rfl
theorem feed_acc (s : Sc) (c : Nat) (h0 : s.bad = 0) (h : (pstep s c).2 = 0) : (pfeed s c).bad = 0 ∧ (pfeed s c).size = s.size + 1 ∧ mC (pfeed s c) = mC (pstep s c).1 := by
  unfold pfeed; rw [if_pos h0]
  refine ⟨h, ?_, rfl⟩
  show (if (pstep s c).2 = 0 then (pstep s c).1.size + 1 else (pstep s c).1.size) = _
  rw [if_pos h, (pstep_okc s c).2.1]
theorem feed_rej (s : Sc) (c : Nat) (h0 : s.bad = 0) (h : (pstep s c).2 ≠ 0) : (pfeed s c).size = s.size := by
  unfold pfeed; rw [if_pos h0]
  show (if (pstep s c).2 = 0 then (pstep s c).1.size + 1 else (pstep s c).1.size) = _
  rw [if_neg h, (pstep_okc s c).2.1]
def mayS : ByteArray := ⟨#[34, 93, 125, 58, 48, 128, 160, 144, 114, 117, 101, 97, 108, 115, 100, 99, 92]⟩
theorem may_piece : ∀ i : Fin 17, bnat (mayS.extract i.val (i.val + 1)) = [mayL.getD i.val 0] ∧ (mayS.extract i.val (i.val + 1)).size = 1 ∧ (mayS.extract i.val (i.val + 1)).toList.isEmpty = false := by decide +kernel

/-- what the byte of a place does -/
theorem goes_at (s : Sc) (h0 : s.bad = 0) (hg : InG s) (hn : ¬ (s.done = true ∧ s.open_ = [])) : ∃ I : Nat, I < 17 ∧ (∀ j, j < I → (pfeed s (mayL.getD j 0)).size = s.size) ∧ (pfeed s (mayL.getD I 0)).bad = 0 ∧ (pfeed s (mayL.getD I 0)).size = s.size + 1 ∧ mC (pfeed s (mayL.getD I 0)) < mC s := by
  obtain ⟨pre, c, post, hm, hp, hc, hlt⟩ := goes_any s hg hn
  have hlen : pre.length < 17 := by
    have h17 : mayL.length = 17 := rfl
    rw [hm] at h17
    simp at h17
    omega
  have hI : mayL.getD pre.length 0 = c := by rw [hm]; simp
  have hj : ∀ j, j < pre.length → mayL.getD j 0 ∈ pre := fun j hj => by
    rw [hm]
    have e : (pre ++ c :: post).getD j 0 = pre[j] := by simp [List.getElem?_append_left hj, hj]
    rw [e]; exact List.getElem_mem hj
  obtain ⟨b1, b2, b3⟩ := feed_acc s c h0 hc
  refine ⟨pre.length, hlen, fun j h => feed_rej s _ h0 (hp _ (hj j h)), ?_, ?_, ?_⟩
  · rw [hI]; exact b1
  · rw [hI]; exact b2
  · rw [hI, b3]; exact hlt

def GRel (w : World) (v0 v3 : Value) (wr : World) : Prop :=
  ∃ (t : ByteArray) (k : Nat), v0 = .string t ∧ v3 = .int .i64 k ∧ k + mC (prd t) ≤ 142 ∧ t.size ≤ 1000 + k ∧ (prd t).bad = 0 ∧ Below w.heap.size w wr
def MRel (w : World) (I : Nat) (v7 v8 : Value) (wr : World) : Prop :=
  ∃ i : Nat, v8 = .int .i64 i ∧ ((i ≤ I ∧ v7 = .string ⟨#[]⟩) ∨ (i = I + 1 ∧ v7 = .string (mayS.extract I (I + 1)))) ∧ Below w.heap.size w wr

set_option maxRecDepth 100000 in
set_option maxHeartbeats 1500000 in
theorem complete_any (s : ByteArray) (hs : s.size ≤ 1000) (hb : (prd s).bad = 0) (a : Nat → Addr) (w : World) (he : Errs w a) :
    Calls Tryd.prog 23 #[.string s] w fun e w' => e = .returned (.bool true) ∧ Below w.heap.size w w' := by
  have HE := Lib.hid he
  have HB0 := Lib.hid hb
  have HS := Lib.hid hs
  have HRD := Lib.hid (fun wx (hb : Below w.heap.size w wx) (t : ByteArray) (ht : t.size ≤ 2000) => read_any wx t a (he.below hb) (by omega))
  clear he hb hs
  go_enter Tryd.func23, Tryd.ntmps23
  go_wp2_with fail
  go_loopw [0, 3] (fun v0 v3 wr => GRel w v0 v3 wr) (fun _ v3 _ => 700 - (intOf v3).toNat)
  case atStart => exact ⟨s, 0, rfl, rfl, by have := mC_le (prd s) (write_inG Sc0 _ Sc0_inG HB0.out); omega, by have := HS.out; omega, HB0.out, Below.refl _ _⟩
  case round =>
    obtain ⟨t, k, rfl, rfl, hk, ht, hbt, hbel⟩ := hrel
    have HBEL := Lib.hid hbel
    have hk700 : (k : Int) < 700 := by omega
    have hin := write_inG Sc0 (bnat t) Sc0_inG hbt
    change InG (prd t) at hin
    have hsz := (write_full Sc0 (bnat t) hbt).2
    rw [bnat_len] at hsz
    change (prd t).size = (0 : Int) + t.size at hsz
    have hsz : (prd t).size = (t.size : Int) := by omega
    have HKM := Lib.hid hk
    have HTS := Lib.hid ht
    have HBT := Lib.hid hbt
    have HIN := Lib.hid hin
    have ht2 : t.size ≤ 2000 := by omega
    clear hbel hin hk ht hbt
    go_wp2_with fail
    refine (HRD.out _ HBEL.out t ht2).mono ?_
    rintro e w2 ⟨verr, rfl, hverr, hb2⟩
    have HV := Lib.hid hverr
    have HB2 : Hid (Below w.heap.size w w2) := Lib.hid (HBEL.out.trans (hb2.mono HBEL.out.size))
    clear hverr hb2
    by_cases hdone : (prd t).done = true ∧ (prd t).open_ = []
    · have hpc : pclose (prd t) = 0 := by unfold pclose; rw [if_pos HBT.out, if_pos hdone]
      have hv := HV.out
      rw [hpc] at hv
      obtain rfl := err_nil hv
      clear hv hpc hdone HV
      go_wp2_with fail
      go_ret
      exact ⟨rfl, HB2.out⟩
    · have hpc : pclose (prd t) = 3 := by unfold pclose; rw [if_pos HBT.out, if_neg hdone]
      have hv := HV.out
      rw [hpc] at hv
      obtain ⟨gf, -, rfl, -⟩ := err_some (by decide) hv
      obtain ⟨I, hI, hrej, hacc1, hacc2, hacc3⟩ := goes_at (prd t) HBT.out HIN.out hdone
      have HREJ := Lib.hid hrej
      have HA1 := Lib.hid hacc1
      have HA2 := Lib.hid hacc2
      have HA3 := Lib.hid hacc3
      have HSZ := Lib.hid hsz
      clear hv hpc hdone HV hrej hacc1 hacc2 hacc3
      generalize (prd t).size = Z at *
      generalize (prd t).open_.length = L at *
      obtain ⟨wo, rfl⟩ : ∃ wo : World, wo = w2 := ⟨_, rfl⟩
      clear hsz
      go_wp2_with fail
      go_loopw [7, 8] (fun v7 v8 wr => MRel w I v7 v8 wr) (fun _ v8 _ => 17 - (intOf v8).toNat)
      case atStart => exact ⟨0, rfl, .inl ⟨Nat.zero_le _, rfl⟩, HB2.out⟩
      case round =>
        obtain ⟨i, rfl, hi, hbel3⟩ := hrel
        have HB3 := Lib.hid hbel3
        clear hbel3
        rcases hi with ⟨hi, rfl⟩ | ⟨rfl, rfl⟩
        · have hi17 : (i : Int) < 17 := by omega
          have hi17' : i < 17 := by omega
          obtain ⟨p1, p2, p3⟩ := may_piece ⟨i, by omega⟩
          simp only [] at p1 p2 p3
          have e1 : ((i : Int) + 1).toNat = i + 1 := by omega
          have hrun := prd_snoc t (mayS.extract i (i + 1)) (mayL.getD i 0) p1
          have hMs : (t ++ mayS.extract i (i + 1)).size ≤ 2000 := by have := HTS.out; have := HKM.out; simp only [ByteArray.size_append, p2]; omega
          have HRM := Lib.hid (HRD.out _ HB3.out (t ++ mayS.extract i (i + 1)) hMs)
          unfold RdPost at HRM
          rw [hrun] at HRM
          have hts : t.size ≤ 1142 := by have := HTS.out; have := HKM.out; omega
          have HP1 := Lib.hid p1
          have hZ := HSZ.out
          by_cases hii : i = I
          · subst hii
            have hq : ((pfeed (prd t) (mayL.getD i 0)).size : Int) = (t.size : Int) + 1 := by rw [HA2.out, hZ]
            rw [hq] at HRM
            have HREL : Hid (∀ wx, Below w.heap.size w wx → MRel w i (.string (mayS.extract i (i + 1))) (.int .i64 (i + 1 : Nat)) wx) := Lib.hid (fun wx h => ⟨i + 1, rfl, .inr ⟨rfl, rfl⟩, h⟩)
            unfold mayS at HRM p2 p3 HREL
            have HP2 := Lib.hid p2
            clear hq hrun hMs p1 p2 p3 hZ
            go_wp2_with fail
            refine HRM.out.mono ?_
            rintro e w4 ⟨v4, rfl, -, hb4⟩
            have HB4 : Hid (Below w.heap.size w w4) := Lib.hid (HB3.out.trans (hb4.mono HB3.out.size))
            clear hb4
            go_wp2_with fail
            go_roundw
            case rel => exact HREL.out _ HB4.out
            case measure => simp [intOf]; omega
          · have hq : ((pfeed (prd t) (mayL.getD i 0)).size : Int) = (t.size : Int) := by rw [HREJ.out i (by omega), hZ]
            rw [hq] at HRM
            have hne : ((t.size : Int) == (t.size : Int) + 1) = false := by rw [beq_eq_false_iff_ne]; omega
            have HREL : Hid (∀ wx, Below w.heap.size w wx → MRel w I (.string ⟨#[]⟩) (.int .i64 (i + 1 : Nat)) wx) := Lib.hid (fun wx h => ⟨i + 1, rfl, .inl ⟨by omega, rfl⟩, h⟩)
            unfold mayS at HRM p2
            have HP2 := Lib.hid p2
            clear hq hrun hMs p1 p2 p3 hZ
            go_wp2_with fail
            refine HRM.out.mono ?_
            rintro e w4 ⟨v4, rfl, -, hb4⟩
            have HB4 : Hid (Below w.heap.size w w4) := Lib.hid (HB3.out.trans (hb4.mono HB3.out.size))
            clear hb4
            go_wp2_with fail
            go_roundw
            case rel => exact HREL.out _ HB4.out
            case measure => simp [intOf]; omega
        · obtain ⟨p1, p2, p3⟩ := may_piece ⟨I, hI⟩
          simp only [] at p1 p2 p3
          have hrun := prd_snoc t (mayS.extract I (I + 1)) (mayL.getD I 0) p1
          have HREL : Hid (∀ wx, Below w.heap.size w wx → GRel w (.string (t ++ mayS.extract I (I + 1))) (.int .i64 (k + 1 : Nat)) wx) := Lib.hid (fun wx h => ⟨_, k + 1, rfl, rfl, by rw [hrun]; have := HA3.out; have := HKM.out; omega, by have := HTS.out; simp only [ByteArray.size_append, p2]; omega, by rw [hrun]; exact HA1.out, h⟩)
          have hts : t.size ≤ 1142 := by have := HTS.out; have := HKM.out; omega
          have hk142 : k ≤ 142 := by have := HKM.out; omega
          generalize mayS.extract I (I + 1) = M at *
          have HP2 := Lib.hid p1
          clear hrun p1
          have p2' : M.size ≤ 1 := by omega
          clear p2
          by_cases hI16 : (I : Int) + 1 < 17
          all_goals
            go_wp2_with fail
            go_roundw
            case rel => exact HREL.out _ HB3.out
            case measure => simp [intOf]; omega
end Go.Proofs.YtjfeebbhkolmoaaDoor
