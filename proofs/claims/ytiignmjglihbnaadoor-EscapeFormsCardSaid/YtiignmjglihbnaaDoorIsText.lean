/- Contract of crucibleref10.IsText. -/
import Derived.Test.YtiignmjglihbnaaDoorStep
import Derived.Test.YtiignmjglihbnaaDoorBad
namespace Go.Proofs.YtiignmjglihbnaaDoor
open Go.RowKit

def isTextB (s : ByteArray) : Bool := runB (bt s) s.size 0 0 0 0
theorem isText_bad (s : ByteArray) : isTextB s = decide (badAt s = s.size) := by
  have h := run_bad (bt s) s.size (bt_outs s) s.size 0 0 0 (Nat.zero_le _) (by omega)
  rw [Nat.sub_zero] at h
  exact h

def St0 : St := { mode := 1, left := 0, number := 0, high := 0, low := 0, most := 0, text := [] }
def ITRel (w : World) (s : ByteArray) (v4 : Value) (wr : World) : Prop :=
  ∃ (k : Nat) (st : St) (l : Nat), v4 = .int .i64 k ∧ k ≤ s.size ∧ StAt wr w.heap.size w.heap.size st ∧ st.text.length ≤ k ∧ st.left = l ∧ l ≤ 3 ∧ ((st.mode = 1 ∧ l = 0) ∨ (st.mode = 6 ∧ l ≠ 0)) ∧ runB (bt s) (s.size - k) k l st.low st.most = isTextB s ∧ Below w.heap.size w wr ∧ w.heap.size < wr.heap.size

theorem inside_plain (st : St) (c : Nat) (h : c < 128) (h1 : c ≠ 34) (h2 : c ≠ 92) (h3 : 32 ≤ c) : inside st c = ({ st with text := st.text ++ [c] }, true) := by
  unfold inside
  rw [if_neg h1, if_neg h2, if_neg (by omega), if_pos h]
theorem inside_no (st : St) (c : Nat) (h : 128 ≤ c) (h' : c < 194 ∨ 244 < c) : inside st c = (st, false) := by
  unfold inside
  rw [if_neg (by omega), if_neg (by omega), if_pos (by omega)]
theorem inside_many (st : St) (c : Nat) (h : 194 ≤ c) (h' : c ≤ 244) : inside st c = ({ st with text := st.text ++ [c], mode := 6, low := loB c, most := hiB c, left := (moreB c : Nat) }, true) := by
  unfold inside moreB
  rw [if_neg (by omega), if_neg (by omega), if_neg (by omega), if_neg (by omega)]
  by_cases h1 : 240 ≤ c
  · rw [if_pos h1, if_pos h1]; rfl
  · rw [if_neg h1, if_neg h1]
    by_cases h2 : 224 ≤ c
    · rw [if_pos h2, if_pos h2]; rfl
    · rw [if_neg h2, if_neg h2]; rfl
theorem more_pos (c : Nat) : 1 ≤ moreB c ∧ moreB c ≤ 3 := by unfold moreB; split <;> (try split) <;> omega

set_option maxRecDepth 100000 in
set_option maxHeartbeats 1500000 in
theorem isText_any (s : ByteArray) (hs : s.size ≤ 1048576) (w : World) :
    Calls Tryd.prog 23 #[.string s] w fun e w' => e = .returned (.bool (isTextB s)) ∧ Below w.heap.size w w' := by
  go_enter Tryd.func23, Tryd.ntmps23
  go_wp2_with fail
  go_loopw [4] (fun v4 wr => ITRel w s v4 wr) (fun v4 _ => s.size - (intOf v4).toNat)
  case atStart => exact ⟨0, St0, 0, rfl, Nat.zero_le _, ⟨.slice none 0 0, Blk.new _ _ _, ⟨rfl, .inl ⟨rfl, rfl⟩⟩⟩, Nat.le_refl _, rfl, by omega, .inl ⟨rfl, rfl⟩, rfl, (Below.refl _ _).alloc (Nat.le_refl _) _, by simp⟩
  case round =>
    obtain ⟨k, st, l, rfl, hk, hst, htl, hleft, hl3, hmode, hrun, hbel, hsz⟩ := hrel
    have HRUN := Lib.hid hrun
    have HBEL := Lib.hid hbel
    have HSZ := Lib.hid hsz
    have HTL := Lib.hid htl
    have HLE := Lib.hid hleft
    have HST := Lib.hid hst
    obtain ⟨vt, hblk, -⟩ := hst
    have c0 := hblk.cell 0
    unfold stCells at c0
    clear hrun hbel hsz htl hleft hblk
    have k0 : 0 ≤ (k : Int) := by omega
    by_cases hlt : k < s.size
    · obtain ⟨r, hr⟩ : ∃ r, s.size - k = r + 1 := ⟨s.size - k - 1, by omega⟩
      have hr2 : s.size - (k + 1) = r := by omega
      have hc := bt_lt hlt
      have HBT := Lib.hid (bt_in hlt)
      rw [bt_in hlt] at hc
      rcases hmode with ⟨hm, rfl⟩ | ⟨hm, hl0⟩
      · have HRF : Hid ((if bt s k < 128 then runB (bt s) r (k + 1) 0 st.low st.most else if bt s k < 194 ∨ 244 < bt s k then false else runB (bt s) r (k + 1) (moreB (bt s k)) (loB (bt s k)) (hiB (bt s k))) = isTextB s) := Lib.hid (by
          rw [← run_free, ← hr]; exact HRUN.out)
        rw [HBT.out] at HRF
        have HC : ∀ cc : Nat, cc < 256 → Calls Tryd.prog 28 #[.pointer (some ⟨w.heap.size, 0, none⟩), .int .u8 cc] wr (StPost wr w.heap.size w.heap.size (inside st cc).1 (inside st cc).2) := fun cc h =>
          step_inside wr w.heap.size w.heap.size st cc h hm HST.out (Nat.le_refl _) (Nat.le_of_lt HSZ.out) (by have := HTL.out; omega)
        rw [hm] at c0
        have HM := Lib.hid hm
        have HHC := Lib.hid HC
        clear hm HC HRUN
        generalize hcc : s[k].toNat = c at *
        by_cases hsp : c < 32 ∨ c = 34 ∨ c = 92
        · have hin := inside_plain st 97 (by omega) (by omega) (by omega) (by omega)
          have H97 := HHC.out 97 (by omega)
          rw [hin] at H97
          have HH := Lib.hid H97
          have HRN : Hid (runB (bt s) r (k + 1) 0 st.low st.most = isTextB s) := Lib.hid (by rw [← HRF.out, if_pos (by omega)])
          clear hin H97 HRF HHC
          rcases hsp with hsp | rfl | rfl
          · have hq : (c : Int) < 32 := by omega
            clear hsp hc
            go_wp2_with fail
            refine HH.out.mono ?_
            rintro e w2 ⟨rfl, h1, h2, h3⟩
            have H1 := Lib.hid h1
            have H2 : Hid (Below w.heap.size w w2) := Lib.hid (HBEL.out.trans h2)
            have H3 := Lib.hid h3
            clear h1 h2 h3
            go_wp2_with fail
            go_roundw
            case rel => exact ⟨k + 1, _, 0, by go_num, by omega, H1.out, by have := HTL.out; simp; omega, HLE.out, by omega, .inl ⟨HM.out, rfl⟩, by rw [hr2]; exact HRN.out, H2.out, by have := HSZ.out; have := H3.out; omega⟩
            case measure => simp [intOf]; omega
          · clear hc
            go_wp2_with fail
            refine HH.out.mono ?_
            rintro e w2 ⟨rfl, h1, h2, h3⟩
            have H1 := Lib.hid h1
            have H2 : Hid (Below w.heap.size w w2) := Lib.hid (HBEL.out.trans h2)
            have H3 := Lib.hid h3
            clear h1 h2 h3
            go_wp2_with fail
            go_roundw
            case rel => exact ⟨k + 1, _, 0, by go_num, by omega, H1.out, by have := HTL.out; simp; omega, HLE.out, by omega, .inl ⟨HM.out, rfl⟩, by rw [hr2]; exact HRN.out, H2.out, by have := HSZ.out; have := H3.out; omega⟩
            case measure => simp [intOf]; omega
          · clear hc
            go_wp2_with fail
            refine HH.out.mono ?_
            rintro e w2 ⟨rfl, h1, h2, h3⟩
            have H1 := Lib.hid h1
            have H2 : Hid (Below w.heap.size w w2) := Lib.hid (HBEL.out.trans h2)
            have H3 := Lib.hid h3
            clear h1 h2 h3
            go_wp2_with fail
            go_roundw
            case rel => exact ⟨k + 1, _, 0, by go_num, by omega, H1.out, by have := HTL.out; simp; omega, HLE.out, by omega, .inl ⟨HM.out, rfl⟩, by rw [hr2]; exact HRN.out, H2.out, by have := HSZ.out; have := H3.out; omega⟩
            case measure => simp [intOf]; omega
        · have q1 : ((c : Int) == 34) = false := eqF (by omega)
          have q2 : ((c : Int) == 92) = false := eqF (by omega)
          have q3 : 32 ≤ (c : Int) := by omega
          have H97 := HHC.out c hc
          by_cases h1 : c < 128
          · rw [inside_plain st c h1 (by omega) (by omega) (by omega)] at H97
            have HH := Lib.hid H97
            have HRN : Hid (runB (bt s) r (k + 1) 0 st.low st.most = isTextB s) := Lib.hid (by rw [← HRF.out, if_pos h1])
            clear H97 HRF HHC hsp h1 hc
            go_wp2_with fail
            refine HH.out.mono ?_
            rintro e w2 ⟨rfl, h1, h2, h3⟩
            have H1 := Lib.hid h1
            have H2 : Hid (Below w.heap.size w w2) := Lib.hid (HBEL.out.trans h2)
            have H3 := Lib.hid h3
            clear h1 h2 h3
            go_wp2_with fail
            go_roundw
            case rel => exact ⟨k + 1, _, 0, by go_num, by omega, H1.out, by have := HTL.out; simp; omega, HLE.out, by omega, .inl ⟨HM.out, rfl⟩, by rw [hr2]; exact HRN.out, H2.out, by have := HSZ.out; have := H3.out; omega⟩
            case measure => simp [intOf]; omega
          · by_cases h2 : c < 194 ∨ 244 < c
            · rw [inside_no st c (by omega) h2] at H97
              have HH := Lib.hid H97
              have HRN : Hid (isTextB s = false) := Lib.hid (by rw [← HRF.out, if_neg h1, if_pos h2])
              clear H97 HRF HHC hsp h1 hc h2
              go_wp2_with fail
              refine HH.out.mono ?_
              rintro e w2 ⟨rfl, h1, h2, h3⟩
              have H2 : Hid (Below w.heap.size w w2) := Lib.hid (HBEL.out.trans h2)
              clear h1 h2 h3
              go_wp2_with fail
              go_ret
              exact ⟨by rw [HRN.out] <;> rfl, H2.out⟩
            · rw [inside_many st c (by omega) (by omega)] at H97
              have HH := Lib.hid H97
              have hmo := more_pos c
              have HRN : Hid (runB (bt s) r (k + 1) (moreB c) (loB c) (hiB c) = isTextB s) := Lib.hid (by rw [← HRF.out, if_neg h1, if_neg h2])
              clear H97 HRF HHC hsp h1 hc h2
              go_wp2_with fail
              refine HH.out.mono ?_
              rintro e w2 ⟨rfl, h1, h2, h3⟩
              have H1 := Lib.hid h1
              have H2 : Hid (Below w.heap.size w w2) := Lib.hid (HBEL.out.trans h2)
              have H3 := Lib.hid h3
              clear h1 h2 h3
              go_wp2_with fail
              go_roundw
              case rel => exact ⟨k + 1, _, moreB c, by go_num, by omega, H1.out, by have := HTL.out; simp; omega, rfl, by omega, .inr ⟨rfl, by omega⟩, by rw [hr2]; exact HRN.out, H2.out, by have := HSZ.out; have := H3.out; omega⟩
              case measure => simp [intOf]; omega
      · obtain ⟨l, rfl⟩ : ∃ l', l = l' + 1 := ⟨l - 1, by omega⟩
        have HRF : Hid ((decide (st.low ≤ bt s k ∧ bt s k ≤ st.most) && runB (bt s) r (k + 1) l 128 191) = isTextB s) := Lib.hid (by
          rw [← run_due, ← hr]; exact HRUN.out)
        rw [HBT.out] at HRF
        have hleft := HLE.out
        have HC := step_bytes wr w.heap.size w.heap.size st (s[k].toNat) hm HST.out (by omega) (by omega) (Nat.le_refl _) (Nat.le_of_lt HSZ.out) (by have := HTL.out; omega)
        rw [hm] at c0
        have HM := Lib.hid hm
        clear HRUN hleft
        generalize hcc : s[k].toNat = c at *
        unfold bytesStep at HC
        by_cases hno : c < st.low ∨ st.most < c
        · rw [if_pos hno] at HC
          have HH := Lib.hid HC
          have HRN : Hid (isTextB s = false) := Lib.hid (by rw [← HRF.out, decide_eq_false (by omega), Bool.false_and])
          clear HC HRF hno hm hc hl0
          go_wp2_with fail
          refine HH.out.mono ?_
          rintro e w2 ⟨rfl, h1, h2, h3⟩
          have H2 : Hid (Below w.heap.size w w2) := Lib.hid (HBEL.out.trans h2)
          clear h1 h2 h3
          go_wp2_with fail
          go_ret
          exact ⟨by rw [HRN.out] <;> rfl, H2.out⟩
        · rw [if_neg hno] at HC
          have HH := Lib.hid HC
          have HRN : Hid (runB (bt s) r (k + 1) l 128 191 = isTextB s) := Lib.hid (by rw [← HRF.out, decide_eq_true (by omega), Bool.true_and])
          clear HC HRF hno hm hc hl0
          go_wp2_with fail
          refine HH.out.mono ?_
          rintro e w2 ⟨rfl, h1, h2, h3⟩
          have H1 := Lib.hid h1
          have H2 : Hid (Below w.heap.size w w2) := Lib.hid (HBEL.out.trans h2)
          have H3 := Lib.hid h3
          clear h1 h2 h3
          go_wp2_with fail
          go_roundw
          case rel =>
            have hle := HLE.out
            refine ⟨k + 1, _, l, by go_num, by omega, H1.out, by have := HTL.out; simp; omega, by show st.left - 1 = _; omega, by omega, ?_, by rw [hr2]; exact HRN.out, H2.out, by have := HSZ.out; have := H3.out; omega⟩
            show ((if st.left - 1 = 0 then 1 else st.mode) = 1 ∧ l = 0) ∨ ((if st.left - 1 = 0 then 1 else st.mode) = 6 ∧ l ≠ 0)
            by_cases hl : l = 0
            · left; exact ⟨if_pos (by omega), hl⟩
            · right; exact ⟨by rw [if_neg (by omega)]; exact HM.out, hl⟩
          case measure => simp [intOf]; omega
    · obtain rfl : k = s.size := by omega
      have hrun := HRUN.out
      rw [Nat.sub_self] at hrun
      rcases hmode with ⟨hm, rfl⟩ | ⟨hm, hl0⟩
      · have HRN : Hid (isTextB s = true) := Lib.hid (by rw [← hrun]; rfl)
        rw [hm] at c0
        clear hrun hm HRUN
        go_wp2_with fail
        go_ret
        exact ⟨by rw [HRN.out] <;> rfl, HBEL.out⟩
      · have HRN : Hid (isTextB s = false) := Lib.hid (by rw [← hrun]; show (l == 0) = false; rw [beq_eq_false_iff_ne]; exact hl0)
        rw [hm] at c0
        clear hrun hm HRUN
        go_wp2_with fail
        go_ret
        exact ⟨by rw [HRN.out] <;> rfl, HBEL.out⟩
end Go.Proofs.YtiignmjglihbnaaDoor
