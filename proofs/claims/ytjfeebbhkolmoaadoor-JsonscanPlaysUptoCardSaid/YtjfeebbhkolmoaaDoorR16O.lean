/- crucibleref16's Scanner: Write. -/
import Derived.Test.YtjfeebbhkolmoaaDoorR16J
import Derived.Test.YtjfeebbhkolmoaaDoorJsA
namespace Go.Proofs.YtjfeebbhkolmoaaDoor.R
open Go.RowKit
set_option linter.unusedVariables false

def setZ (s : St) (z : Int) : St := { s with o := { s.o with size := z } }
def setB (s : St) (b : Nat) (z : Int) : St := { s with o := { s.o with bad := b, at_ := z } }
def rfeed (s : St) (c : Nat) : St :=
  if s.o.bad = 0 then (if (rstep s c).2 = 0 then setZ (rstep s c).1 ((rstep s c).1.o.size + 1) else setB (rstep s c).1 (rstep s c).2 (rstep s c).1.o.size) else s
def rwrite (s : St) (l : List Nat) : St := l.foldl rfeed s
theorem rwrite_succ (s : St) (l : List Nat) (k : Nat) (h : k < l.length) : rwrite s (l.take (k + 1)) = rfeed (rwrite s (l.take k)) l[k] := by
  unfold rwrite
  rw [List.take_succ_eq_append_getElem h, List.foldl_append]; rfl
theorem rwrite_bad (s : St) (l : List Nat) (h : s.o.bad ≠ 0) : rwrite s l = s := by
  induction l with
  | nil => rfl
  | cons x l ih =>
    show rwrite (rfeed s x) l = s
    rw [show rfeed s x = s from if_neg h]; exact ih
theorem rwrite_take_bad (s : St) (l : List Nat) (k : Nat) (h : (rwrite s (l.take k)).o.bad ≠ 0) : rwrite s l = rwrite s (l.take k) := by
  conv => lhs; rw [← List.take_append_drop k l]
  unfold rwrite at *
  rw [List.foldl_append]
  exact rwrite_bad _ _ h
theorem pValue_oth (s : St) (c : Nat) : (pValue s c).1.o.size = s.o.size ∧ (pValue s c).1.o.bad = s.o.bad ∧ (pValue s c).1.o.at_ = s.o.at_ := by
  unfold pValue
  repeat' split
  all_goals exact ⟨rfl, rfl, rfl⟩
theorem pCloses_oth (s : St) (c : Nat) : (pCloses s c).1.o.size = s.o.size ∧ (pCloses s c).1.o.bad = s.o.bad ∧ (pCloses s c).1.o.at_ = s.o.at_ := by
  unfold pCloses
  split
  all_goals exact ⟨rfl, rfl, rfl⟩
theorem pSign_oth (s : St) (c : Nat) : (pSign s c).1.o.size = s.o.size ∧ (pSign s c).1.o.bad = s.o.bad ∧ (pSign s c).1.o.at_ = s.o.at_ := by
  unfold pSign
  split
  · exact pCloses_oth s c
  repeat' split
  all_goals first | exact ⟨rfl, rfl, rfl⟩ | exact pValue_oth s c
theorem pNumber_oth (s : St) (c : Nat) : (pNumber s c).1.o.size = s.o.size ∧ (pNumber s c).1.o.bad = s.o.bad ∧ (pNumber s c).1.o.at_ = s.o.at_ := by
  unfold pNumber
  repeat' split
  all_goals exact ⟨rfl, rfl, rfl⟩
theorem inside_o (s : St) (c : Nat) : (inside s c).1.o = s.o := by
  unfold inside
  repeat' split
  all_goals rfl
theorem strokeStep_o (s : St) (c : Nat) : (strokeStep s c).1.o = s.o := by
  unfold strokeStep
  split <;> rfl
theorem digitsStep_o (s : St) (c : Nat) : (digitsStep s c).1.o = s.o := by
  unfold digitsStep
  repeat' split
  all_goals rfl
theorem bytesStep_o (s : St) (c : Nat) : (bytesStep s c).1.o = s.o := by
  unfold bytesStep
  split <;> rfl
theorem stepF_o (s : St) (c : Nat) : (stepF s c).1.o = s.o := by
  unfold stepF
  split
  · rfl
  split
  · exact inside_o s c
  split
  · exact strokeStep_o s c
  split
  · exact digitsStep_o s c
  split
  · rfl
  split
  · rfl
  split
  · exact bytesStep_o s c
  · rfl
theorem rBetween_oth (s : St) (c : Nat) : (rBetween s c).1.o.size = s.o.size ∧ (rBetween s c).1.o.bad = s.o.bad ∧ (rBetween s c).1.o.at_ = s.o.at_ := by
  unfold rBetween
  split
  · exact ⟨rfl, rfl, rfl⟩
  · exact pSign_oth s c
theorem rstep_oth (s : St) (c : Nat) : (rstep s c).1.o.size = s.o.size ∧ (rstep s c).1.o.bad = s.o.bad ∧ (rstep s c).1.o.at_ = s.o.at_ := by
  unfold rstep
  split
  · have h := stepF_o s c
    unfold rLit
    repeat' split
    all_goals
      show (stepF s c).1.o.size = _ ∧ (stepF s c).1.o.bad = _ ∧ (stepF s c).1.o.at_ = _; rw [h]; exact ⟨rfl, rfl, rfl⟩
  split
  · unfold rWord
    split
    · exact ⟨rfl, rfl, rfl⟩
    · repeat' split
      all_goals exact ⟨rfl, rfl, rfl⟩
  split
  · have h := pNumber_oth s c
    unfold rNum
    split
    · have h2 := rBetween_oth (setM (pNumber s c).1 5) c
      exact ⟨h2.1.trans h.1, h2.2.1.trans h.2.1, h2.2.2.trans h.2.2⟩
    · split
      · exact h
      · exact h
  · exact rBetween_oth s c
theorem rstep_size (s : St) (c : Nat) : (rstep s c).1.o.size = s.o.size := (rstep_oth s c).1
/-- what the loop of Write wants of a Scanner -/
structure Fit (s : St) : Prop where
  inr : s.o.bad = 0 → InR s
  tx : s.o.bad = 0 → s.text.length ≤ 140737488355000
  lo : 0 ≤ s.o.size
  hi : s.o.size ≤ 9223372036854775806
def WRelR (w : World) (S : Nat → Prop) (g : Nat) (s : St) (l : List Nat) (v5 : Value) (wr : World) : Prop :=
  ∃ (k : Nat) (S' : Nat → Prop), k ≤ l.length ∧ v5 = .int .i64 k ∧ StAt wr S' g (rwrite s (l.take k)) ∧ Keeps S w wr ∧ Fresh w S S'

theorem REnd {w w1 wr : World} {S S' : Nat → Prop} {g : Nat} {s : St} {u0 u1 u2 : Value} (hk : Keeps S w w1) (hz : w1.heap.size = w.heap.size + 1) (hs : StAt wr S' g s) (hk1 : Keeps S w1 wr) (hf : Fresh w1 S S') (hn : ¬ S' w.heap.size) :
    StLeft w S g s (((wr.setCell ⟨w.heap.size, 0, none⟩ u0).setCell ⟨w.heap.size, 1, none⟩ u1).setCell ⟨w.heap.size, 2, none⟩ u2) := by
  have hh : Keeps S w wr := hk.trans hk1 (Fresh.refl _ _)
  have hff : Fresh w S S' := (Fresh.refl w S).trans hk hf
  refine ⟨S', hs.keeps (T := fun i => i = w.heap.size) ((((Keeps.refl (fun i => i = w.heap.size) _).setCell (p := ⟨w.heap.size, 0, none⟩) (.inl rfl) _).setCell (p := ⟨w.heap.size, 1, none⟩) (.inl rfl) _).setCell (p := ⟨w.heap.size, 2, none⟩) (.inl rfl) _) (fun i h e => by subst e; exact hn h), ?_, hff⟩
  exact ((hh.setCell (p := ⟨w.heap.size, 0, none⟩) (.inr (Nat.le_refl _)) _).setCell (p := ⟨w.heap.size, 1, none⟩) (.inr (Nat.le_refl _)) _).setCell (p := ⟨w.heap.size, 2, none⟩) (.inr (Nat.le_refl _)) _
set_option maxRecDepth 100000 in
set_option maxHeartbeats 3000000 in
theorem rwrite_any (w : World) (S : Nat → Prop) (g : Nat) (s : St) (chunk : ByteArray) (hg : ∀ k, k ≤ (bnat chunk).length → Fit (rwrite s ((bnat chunk).take k))) (hsz : chunk.size ≤ 9223372036854775806) (hs : StAt w S g s) :
    Calls Tryd.prog 30 #[.pointer (some ⟨g, 0, none⟩), .string chunk] w (FaultPost w S g (rwrite s (bnat chunk)) (rwrite s (bnat chunk)).o.bad (rwrite s (bnat chunk)).o.at_) := by
  obtain ⟨rr, hrr⟩ : ∃ rr, rwrite s (bnat chunk) = rr := ⟨_, rfl⟩
  rw [hrr]
  have HRR := Lib.hid hrr
  clear hrr
  have HG := Lib.hid hg
  have HKZ := Lib.hid rstep_size
  have HS := Lib.hid hs
  have d0 := hs.cell 0 (.bool true) (fun _ => rfl)
  have hlt : g < w.heap.size := hs.lt g hs.mem
  have HLT := Lib.hid hlt
  have HSL : Hid (∀ i, S i → i < w.heap.size) := Lib.hid (fun i h => hs.lt i h)
  generalize hw1 : w.alloc (.cells #[.int .i64 0, .int .i64 0, .string ⟨#[]⟩] 39) = w1
  have HN : Hid (Blk w1 w.heap.size 39 #[.int .i64 0, .int .i64 0, .string ⟨#[]⟩]) := Lib.hid (hw1 ▸ Blk.new w _ _)
  have HK : Hid (Keeps S w w1) := Lib.hid (hw1 ▸ (Keeps.refl _ _).alloc _)
  have HZ : Hid (w1.heap.size = w.heap.size + 1) := Lib.hid (by rw [← hw1]; simp)
  have HS1 : Hid (StAt w1 S g s) := Lib.hid (hw1 ▸ hs.keeps (T := fun _ => False) ((Keeps.refl _ _).alloc _) (fun _ _ h => h))
  have HNF : Hid (∀ wx S', Keeps S w1 wx → Fresh w1 S S' → Blk wx w.heap.size 39 #[.int .i64 0, .int .i64 0, .string ⟨#[]⟩] ∧ ¬ S' w.heap.size) := Lib.hid (fun wx S' hk hf => ⟨hk.blk HN.out (fun h => by have := HSL.out _ h; omega), fun h => by
    rcases hf _ h with h1 | h1
    · have := HSL.out _ h1; omega
    · have := HZ.out; omega⟩)
  have e0 := HS1.out.cell 0 (.bool true) (fun _ => rfl)
  have hcs : chunk.size ≤ 9223372036854775806 := hsz
  clear hg hs hsz hlt d0
  go_enter Tryd.func30, Tryd.ntmps30
  go_wp2_with fail
  clear e0 hw1
  go_loopw [5] (fun v5 wr => WRelR w1 S g s (bnat chunk) v5 wr) (fun v5 _ => chunk.size - (intOf v5).toNat)
  case atStart => exact ⟨0, S, Nat.zero_le _, rfl, HS1.out, Keeps.refl _ _, Fresh.refl _ _⟩
  case round =>
    obtain ⟨k, S', hk, rfl, hs1, hk1, hf1⟩ := hrel
    rw [bnat_len] at hk
    have HS2 := Lib.hid hs1
    have HK1 := Lib.hid hk1
    have HF1 := Lib.hid hf1
    obtain ⟨s1, hs1e⟩ : ∃ s1, rwrite s ((bnat chunk).take k) = s1 := ⟨_, rfl⟩
    rw [hs1e] at HS2
    have hfit := HG.out k (by rw [bnat_len]; exact hk)
    rw [hs1e] at hfit
    have HFT := Lib.hid hfit
    have z1 : 0 ≤ s1.o.size := hfit.lo
    have z2 : s1.o.size ≤ 9223372036854775806 := hfit.hi
    have d13 := HS2.out.cell 13 (.int .i64 (s1.o.bad : Nat)) (fun _ => rfl)
    have HE1 := Lib.hid hs1e
    clear hs1 hk1 hf1 hfit hs1e
    by_cases hlt : k < chunk.size
    · by_cases hb : s1.o.bad = 0
      · have HST := Lib.hid (rstep_any wr S' g s1 (chunk[k].toNat) (UInt8.toNat_lt _) (HFT.out.inr hb) (HFT.out.tx hb) HS2.out)
        rw [hb] at d13
        have r1 : (k : Int) < (chunk.size : Int) := by omega
        have r2 : 0 ≤ (k : Int) := by omega
        have HB := Lib.hid hb
        clear hb
        go_wp2_with fail
        refine HST.out.mono ?_
        rintro e w2 ⟨rfl, S2, h2, hk2, hf2⟩
        have H2 := Lib.hid h2
        have HK2 : Hid (Keeps S w1 w2) := Lib.hid (HK1.out.trans hk2 HF1.out)
        have HF2 : Hid (Fresh w1 S S2) := Lib.hid (HF1.out.trans HK1.out hf2)
        have HM2 := Lib.hid h2.mem
        clear h2 hk2 hf2 d13
        have hfeed := rwrite_succ s (bnat chunk) k (by rw [bnat_len]; exact hlt)
        rw [HE1.out, bnat_at chunk k hlt] at hfeed
        have hun : rfeed s1 chunk[k].toNat = if (rstep s1 chunk[k].toNat).2 = 0 then setZ (rstep s1 chunk[k].toNat).1 ((rstep s1 chunk[k].toNat).1.o.size + 1) else setB (rstep s1 chunk[k].toNat).1 (rstep s1 chunk[k].toNat).2 (rstep s1 chunk[k].toNat).1.o.size := if_pos HB.out
        rw [hun] at hfeed
        have hkz := (HKZ.out s1 chunk[k].toNat).symm
        rw [hkz] at z1 z2
        obtain ⟨s2, hs2⟩ : ∃ s2, (rstep s1 chunk[k].toNat).1 = s2 := ⟨_, rfl⟩
        obtain ⟨cd, hcd⟩ : ∃ cd, (rstep s1 chunk[k].toNat).2 = cd := ⟨_, rfl⟩
        rw [hs2, hcd] at hfeed
        rw [hs2] at H2 z1 z2
        have HFE := Lib.hid hfeed
        have e12 := H2.out.cell 12 (.int .i64 s2.o.size) (fun _ => rfl)
        have f12 := H2.out.fz 12
        have e13 := H2.out.cell 13 (.int .i64 (s2.o.bad : Nat)) (fun _ => rfl)
        have f13 := H2.out.fz 13
        have e14 := H2.out.cell 14 (.int .i64 s2.o.at_) (fun _ => rfl)
        have e15 := H2.out.cell 15 (.string ⟨#[]⟩) (fun _ => rfl)
        have f14 := H2.out.fz 14
        have f15 := H2.out.fz 15
        rw [hcd]
        clear hfeed hun hs2 hcd hkz
        by_cases hc0 : cd = 0
        · subst hc0
          have HS5 := Lib.hid (H2.out.put 12 (.int .i64 (s2.o.size + 1)) (setZ s2 (s2.o.size + 1)) (fun _ => rfl) rfl)
          have HK5 := Lib.hid (HK2.out.setCell (p := ⟨g, 12, none⟩) (HF2.out g HM2.out) (.int .i64 (s2.o.size + 1)))
          go_wp2_with fail
          go_roundw
          case rel => exact ⟨k + 1, S2, by rw [bnat_len]; omega, by go_num, by rw [HFE.out]; exact HS5.out, HK5.out, HF2.out⟩
          case measure => simp [intOf]; omega
        · have hq : (((cd : Nat) : Int) == 0) = false := eqF (by omega)
          have HC0 := Lib.hid hc0
          have HS3 := Lib.hid (((H2.out.put 13 (.int .i64 (cd : Nat)) (setB s2 cd s2.o.at_) (fun _ => rfl) rfl).put 14 (.int .i64 s2.o.size) (setB s2 cd s2.o.size) (fun _ => rfl) rfl).put 15 (.string ⟨#[]⟩) (setB s2 cd s2.o.size) (fun _ => rfl) rfl)
          have HK3 := Lib.hid (((HK2.out.setCell (p := ⟨g, 13, none⟩) (HF2.out g HM2.out) (.int .i64 (cd : Nat))).setCell (p := ⟨g, 14, none⟩) (HF2.out g HM2.out) (.int .i64 s2.o.size)).setCell (p := ⟨g, 15, none⟩) (HF2.out g HM2.out) (.string ⟨#[]⟩))
          clear hc0
          go_wp2_with fail
          go_roundw
          case rel => exact ⟨k + 1, S2, by rw [bnat_len]; omega, by go_num, by rw [HFE.out, if_neg HC0.out]; exact HS3.out, HK3.out, HF2.out⟩
          case measure => simp [intOf]; omega
      · have hq : (((s1.o.bad : Nat) : Int) == 0) = false := eqF (by omega)
        have HEND : Hid (rwrite s (bnat chunk) = s1) := Lib.hid (by rw [rwrite_take_bad s (bnat chunk) k (by rw [HE1.out]; exact hb), HE1.out])
        clear hb
        have HRE : Hid (rr = s1) := Lib.hid (HRR.out.symm.trans HEND.out)
        have e14 := HS2.out.cell 14 (.int .i64 s1.o.at_) (fun _ => rfl)
        have e15 := HS2.out.cell 15 (.string ⟨#[]⟩) (fun _ => rfl)
        have HNB := HNF.out _ _ HK1.out HF1.out
        have n0 := HNB.1.cell 0
        have n1 := HNB.1.cell 1
        have n2 := HNB.1.cell 2
        have m0 := HNB.1.frozen 0
        have m1 := HNB.1.frozen 1
        have m2 := HNB.1.frozen 2
        have HNX := Lib.hid HNB
        simp at n0 n1 n2
        clear HNB
        go_wp2_with fail
        exact bodyPost_ret (v := .agg #[.int .i64 (s1.o.bad : Nat), .int .i64 s1.o.at_, .string ⟨#[]⟩]) (by simp [results, Tryd.results30, go_sem, n0, n1, n2]) rfl ⟨by rw [HRE.out], by rw [HRE.out]; exact REnd HK.out HZ.out HS2.out HK1.out HF1.out HNX.out.2⟩
    · have HEND : Hid (rwrite s (bnat chunk) = s1) := Lib.hid (by rw [← HE1.out, List.take_of_length_le (by rw [bnat_len]; omega)])
      have HRE : Hid (rr = s1) := Lib.hid (HRR.out.symm.trans HEND.out)
      have e14 := HS2.out.cell 14 (.int .i64 s1.o.at_) (fun _ => rfl)
      have e15 := HS2.out.cell 15 (.string ⟨#[]⟩) (fun _ => rfl)
      have HNB := HNF.out _ _ HK1.out HF1.out
      have n0 := HNB.1.cell 0
      have n1 := HNB.1.cell 1
      have n2 := HNB.1.cell 2
      have m0 := HNB.1.frozen 0
      have m1 := HNB.1.frozen 1
      have m2 := HNB.1.frozen 2
      have HNX := Lib.hid HNB
      simp at n0 n1 n2
      clear HNB
      go_wp2_with fail
      exact bodyPost_ret (v := .agg #[.int .i64 (s1.o.bad : Nat), .int .i64 s1.o.at_, .string ⟨#[]⟩]) (by simp [results, Tryd.results30, go_sem, n0, n1, n2]) rfl ⟨by rw [HRE.out], by rw [HRE.out]; exact REnd HK.out HZ.out HS2.out HK1.out HF1.out HNX.out.2⟩
end Go.Proofs.YtjfeebbhkolmoaaDoor.R
