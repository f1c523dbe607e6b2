/- Contract of (*jsonscan.Scanner).Write. -/
import Derived.Test.YtjfeebbhkolmoaaDoorJs9
namespace Go.Proofs.YtjfeebbhkolmoaaDoor
open Go.RowKit
set_option linter.unusedVariables false

/-- one byte more, at a Scanner that has told no error yet -/
def sTell (s : Sc) (b : Nat) (z : Int) : Sc := { s with bad := b, size := z }
def pfeed (s : Sc) (c : Nat) : Sc :=
  if s.bad = 0 then sTell (pstep s c).1 (pstep s c).2 (if (pstep s c).2 = 0 then (pstep s c).1.size + 1 else (pstep s c).1.size) else s
def pwrite (s : Sc) (l : List Nat) : Sc := l.foldl pfeed s
def bnat (s : ByteArray) : List Nat := s.data.toList.map (·.toNat)
theorem bnat_len (s : ByteArray) : (bnat s).length = s.size := by unfold bnat; rw [List.length_map, Array.length_toList]; rfl
theorem bnat_at (s : ByteArray) (k : Nat) (h : k < s.size) : (bnat s)[k]'(by rw [bnat_len]; exact h) = s[k].toNat := by
  unfold bnat
  simp
  rfl
theorem pwrite_succ (s : Sc) (l : List Nat) (k : Nat) (h : k < l.length) : pwrite s (l.take (k + 1)) = pfeed (pwrite s (l.take k)) l[k] := by
  unfold pwrite
  rw [List.take_succ_eq_append_getElem h, List.foldl_append]; rfl
theorem pwrite_bad (s : Sc) (l : List Nat) (h : s.bad ≠ 0) : pwrite s l = s := by
  induction l with
  | nil => rfl
  | cons x l ih =>
    show pwrite (pfeed s x) l = s
    rw [show pfeed s x = s from if_neg h]; exact ih
theorem pwrite_take_bad (s : Sc) (l : List Nat) (k : Nat) (h : (pwrite s (l.take k)).bad ≠ 0) : pwrite s l = pwrite s (l.take k) := by
  conv => lhs; rw [← List.take_append_drop k l]
  unfold pwrite at *
  rw [List.foldl_append]
  exact pwrite_bad _ _ h
theorem pwrite_app (s : Sc) (l m : List Nat) : pwrite s (l ++ m) = pwrite (pwrite s l) m := by unfold pwrite; rw [List.foldl_append]

theorem pAfter_okc (s : Sc) (c : Nat) : okCode (pAfter s c).2 ∧ (pAfter s c).1.size = s.size ∧ (pAfter s c).1.bad = s.bad := by
  unfold pAfter
  repeat' split
  all_goals exact ⟨by unfold okCode; simp, rfl, rfl⟩
theorem pValue_okc (s : Sc) (c : Nat) : okCode (pValue s c).2 ∧ (pValue s c).1.size = s.size ∧ (pValue s c).1.bad = s.bad := by
  unfold pValue
  repeat' split
  all_goals exact ⟨by unfold okCode; simp, rfl, rfl⟩
theorem pKeys_okc (s : Sc) (c : Nat) : okCode (pKeys s c).2 ∧ (pKeys s c).1.size = s.size ∧ (pKeys s c).1.bad = s.bad := by
  unfold pKeys
  repeat' split
  all_goals exact ⟨by unfold okCode; simp, rfl, rfl⟩
theorem pFraction_okc (s : Sc) (c : Nat) : okCode (pFraction s c).2 ∧ (pFraction s c).1.size = s.size ∧ (pFraction s c).1.bad = s.bad := by
  unfold pFraction
  split
  · exact ⟨by unfold okCode; simp, rfl, rfl⟩
  · exact pAfter_okc s c
theorem pZero_okc (s : Sc) (c : Nat) : okCode (pZero s c).2 ∧ (pZero s c).1.size = s.size ∧ (pZero s c).1.bad = s.bad := by
  unfold pZero
  split
  · exact ⟨by unfold okCode; simp, rfl, rfl⟩
  · exact pFraction_okc s c
theorem pPower_okc (s : Sc) (c : Nat) : okCode (pPower s c).2 ∧ (pPower s c).1.size = s.size ∧ (pPower s c).1.bad = s.bad := by
  unfold pPower
  split
  all_goals exact ⟨by unfold okCode; simp, rfl, rfl⟩
theorem pstep_okc (s : Sc) (c : Nat) : okCode (pstep s c).2 ∧ (pstep s c).1.size = s.size ∧ (pstep s c).1.bad = s.bad := by
  unfold pstep
  by_cases h1 : s.k = jValue
  · rw [if_pos h1]; exact pValue_okc s c
  rw [if_neg h1]
  by_cases h1 : s.k = jFirstItem
  · rw [if_pos h1]; unfold pFirstItem; split
    · exact pAfter_okc s _
    · exact pValue_okc s c
  rw [if_neg h1]
  by_cases h1 : s.k = jFirstKey
  · rw [if_pos h1]; unfold pFirstKey; split
    · exact pAfter_okc s _
    · exact pKeys_okc s c
  rw [if_neg h1]
  by_cases h1 : s.k = jKeys
  · rw [if_pos h1]; exact pKeys_okc s c
  rw [if_neg h1]
  by_cases h1 : s.k = jColon
  · rw [if_pos h1]; unfold pColon
    repeat' split
    all_goals exact ⟨by unfold okCode; simp, rfl, rfl⟩
  rw [if_neg h1]
  by_cases h1 : s.k = jAfter
  · rw [if_pos h1]; exact pAfter_okc s c
  rw [if_neg h1]
  by_cases h1 : s.k = jWord
  · rw [if_pos h1]; unfold pWord
    split
    · exact ⟨by unfold okCode; simp, rfl, rfl⟩
    · repeat' split
      all_goals exact ⟨by unfold okCode; simp, rfl, rfl⟩
  rw [if_neg h1]
  by_cases h1 : s.k = jMinus
  · rw [if_pos h1]; unfold pMinus
    repeat' split
    all_goals exact ⟨by unfold okCode; simp, rfl, rfl⟩
  rw [if_neg h1]
  by_cases h1 : s.k = jZero
  · rw [if_pos h1]; exact pZero_okc s c
  rw [if_neg h1]
  by_cases h1 : s.k = jDigits
  · rw [if_pos h1]; unfold pDigits; split
    · exact ⟨by unfold okCode; simp, rfl, rfl⟩
    · exact pZero_okc s c
  rw [if_neg h1]
  by_cases h1 : s.k = jPoint
  · rw [if_pos h1]; unfold pPoint
    split
    all_goals exact ⟨by unfold okCode; simp, rfl, rfl⟩
  rw [if_neg h1]
  by_cases h1 : s.k = jBehind
  · rw [if_pos h1]; unfold pBehind; split
    · exact ⟨by unfold okCode; simp, rfl, rfl⟩
    · exact pFraction_okc s c
  rw [if_neg h1]
  by_cases h1 : s.k = jSign
  · rw [if_pos h1]; unfold pSign; split
    · exact ⟨by unfold okCode; simp, rfl, rfl⟩
    · exact pPower_okc s c
  rw [if_neg h1]
  by_cases h1 : s.k = jPower
  · rw [if_pos h1]; exact pPower_okc s c
  rw [if_neg h1]
  by_cases h1 : s.k = jPowers
  · rw [if_pos h1]; unfold pPowers; split
    · exact ⟨by unfold okCode; simp, rfl, rfl⟩
    · exact pAfter_okc s c
  rw [if_neg h1]
  by_cases h1 : s.k = jText
  · rw [if_pos h1]; unfold pText
    repeat' split
    all_goals exact ⟨by unfold okCode; simp, rfl, rfl⟩
  rw [if_neg h1]
  by_cases h1 : s.k = jFollow
  · rw [if_pos h1]; unfold pFollow
    repeat' split
    all_goals exact ⟨by unfold okCode; simp, rfl, rfl⟩
  rw [if_neg h1]
  by_cases h1 : s.k = jStroke
  · rw [if_pos h1]; unfold pStroke
    repeat' split
    all_goals exact ⟨by unfold okCode; simp, rfl, rfl⟩
  rw [if_neg h1]
  by_cases h1 : s.k = jHex
  · rw [if_pos h1]; unfold pHex
    simp only []
    repeat' split
    all_goals exact ⟨by unfold okCode; simp, rfl, rfl⟩
  rw [if_neg h1]
  by_cases h1 : s.k = jSecond
  · rw [if_pos h1]; unfold pSecond
    split
    all_goals exact ⟨by unfold okCode; simp, rfl, rfl⟩
  rw [if_neg h1]
  unfold pLetter
  split
  all_goals exact ⟨by unfold okCode; simp, rfl, rfl⟩

/-- what a Scanner always is, an error told or not -/
def Good (s : Sc) : Prop := okCode s.bad ∧ (s.bad = 0 → InJ s)
theorem feed_good (s : Sc) (c : Nat) (h : Good s) : Good (pfeed s c) := by
  unfold pfeed
  split
  · rename_i h0
    refine ⟨(pstep_okc s c).1, fun h1 => ?_⟩
    have h1 : (pstep s c).2 = 0 := h1
    have h2 := step_in s c (h.2 h0) h1
    exact ⟨h2.op, h2.st, h2.wd, h2.fo, h2.hx⟩
  · exact h
theorem write_good (s : Sc) (l : List Nat) (h : Good s) : Good (pwrite s l) := by
  induction l generalizing s with
  | nil => exact h
  | cons x l ih => exact ih _ (feed_good s x h)
theorem feed_size (s : Sc) (c : Nat) : s.size ≤ (pfeed s c).size ∧ (pfeed s c).size ≤ s.size + 1 := by
  unfold pfeed
  split
  · have := (pstep_okc s c).2.1
    show s.size ≤ (if (pstep s c).2 = 0 then (pstep s c).1.size + 1 else (pstep s c).1.size) ∧ (if (pstep s c).2 = 0 then (pstep s c).1.size + 1 else (pstep s c).1.size) ≤ s.size + 1
    split <;> omega
  · omega
theorem write_size (s : Sc) (l : List Nat) : s.size ≤ (pwrite s l).size ∧ (pwrite s l).size ≤ s.size + l.length := by
  induction l generalizing s with
  | nil => exact ⟨Int.le_refl _, by simp [pwrite]⟩
  | cons x l ih =>
    have h1 := feed_size s x
    have h2 := ih (pfeed s x)
    show s.size ≤ (pwrite (pfeed s x) l).size ∧ (pwrite (pfeed s x) l).size ≤ s.size + ((l.length + 1 : Nat) : Int)
    omega

theorem fn_nil (f : Fn) (x y : Array Value) (w : World) : (binOp .eql 43 (.func f x y) .nilFunc).run Tryd.prog w = .ok (.bool false) w := by kernel_rfl
theorem below_undrew {w w2 : World} (h : Below w.drew.heap.size w.drew w2) : Below w.heap.size w w2 := ⟨h.os, h.tape, h.output, h.size, h.block⟩
theorem below_undrewN {w w2 : World} {n : Nat} (h : Below (w.drewN n).heap.size (w.drewN n) w2) : Below w.heap.size w w2 := ⟨h.os, h.tape, h.output, h.size, h.block⟩
def WRel (w : World) (S : Nat → Prop) (g : Nat) (s : Sc) (l : List Nat) (v5 : Value) (wr : World) : Prop :=
  ∃ (k : Nat) (S' : Nat → Prop), k ≤ l.length ∧ v5 = .int .i64 k ∧ ScAt wr S' g (pwrite s (l.take k)) ∧ Keeps S w wr ∧ Fresh w S S'
/-- what Write leaves -/
def WPost (w : World) (S : Nat → Prop) (g : Nat) (a : Nat → Addr) (s : Sc) (e : Ending) (w' : World) : Prop :=
  ∃ v, e = .returned v ∧ ErrAt w' a w.heap.size v s.bad s.size ∧ ∃ S', ScAt w' S' g s ∧ Keeps S w w' ∧ Fresh w S S'
def sentBlocks (a : Nat → Addr) (S : Nat → Prop) : Prop := ∀ i, S i → 12 < i ∧ ∀ k, k < 11 → i ≠ (a k).block
theorem sent_fresh {w : World} {a : Nat → Addr} {S S' : Nat → Prop} (he : Errs w a) (h : sentBlocks a S) (hf : Fresh w S S') : sentBlocks a S' := by
  intro i hi
  rcases hf i hi with h1 | h1
  · exact h i h1
  · refine ⟨by have := he.low; omega, fun k hk e => ?_⟩
    obtain ⟨c, t, ee⟩ := he.blk k hk
    have := (Array.getElem?_eq_some_iff.1 ee).1
    omega

set_option maxRecDepth 100000 in
set_option maxHeartbeats 3000000 in
theorem write_any (w : World) (S : Nat → Prop) (g : Nat) (s : Sc) (chunk : ByteArray) (a : Nat → Addr) (he : Errs w a) (hse : sentBlocks a S) (hg : Good s) (h0 : 0 ≤ s.size) (hsz : s.size + chunk.size ≤ 9223372036854775806) (hs : ScAt w S g s) :
    Calls Tryd.prog 17 #[.pointer (some ⟨g, 0, none⟩), .string chunk] w (WPost w S g a (pwrite s (bnat chunk))) := by
  have HE := Lib.hid he
  have HSE := Lib.hid hse
  have HG := Lib.hid hg
  have HS := Lib.hid hs
  have HSZ := Lib.hid hsz
  have H0 := Lib.hid h0
  have d0 := hs.cell 0 (.func (.func s.k) #[.pointer (some ⟨g, 0, none⟩)] #[]) (fun _ => rfl)
  have hcs : chunk.size ≤ 9223372036854775806 := by omega
  clear he hse hg hs h0 hsz
  have hfn := fn_nil
  go_enter Tryd.func17, Tryd.ntmps17
  go_wp2_with fail
  clear d0
  go_loopw [5] (fun v5 wr => WRel w S g s (bnat chunk) v5 wr) (fun v5 _ => chunk.size - (intOf v5).toNat)
  case atStart => exact ⟨0, S, Nat.zero_le _, rfl, HS.out, Keeps.refl _ _, Fresh.refl _ _⟩
  case round =>
    obtain ⟨k, S', hk, rfl, hs1, hk1, hf1⟩ := hrel
    rw [bnat_len] at hk
    have HS1 := Lib.hid hs1
    have HK1 := Lib.hid hk1
    have HF1 := Lib.hid hf1
    obtain ⟨s1, hs1e⟩ : ∃ s1, pwrite s ((bnat chunk).take k) = s1 := ⟨_, rfl⟩
    rw [hs1e] at HS1
    have hgood := write_good s ((bnat chunk).take k) HG.out
    have hsize := write_size s ((bnat chunk).take k)
    rw [hs1e] at hgood hsize
    have HGD := Lib.hid hgood
    have hlen : ((bnat chunk).take k).length ≤ k := List.length_take_le _ _
    have z1 : 0 ≤ s1.size := by have := H0.out; omega
    have z2 : s1.size ≤ 9223372036854775806 := by have := HSZ.out; omega
    have d4 := HS1.out.cell 4 (.int .i64 (s1.bad : Nat)) (fun _ => rfl)
    have d3 := HS1.out.cell 3 (.int .i64 s1.size) (fun _ => rfl)
    have HE1 := Lib.hid hs1e
    have HSZ1 : Hid (s1.size ≤ s.size + k) := Lib.hid (by omega)
    clear hs1 hk1 hf1 hgood hsize hs1e hlen
    by_cases hlt : k < chunk.size
    · by_cases hb : s1.bad = 0
      · have d0 := HS1.out.cell 0 (.func (.func s1.k) #[.pointer (some ⟨g, 0, none⟩)] #[]) (fun _ => rfl)
        have hin := HGD.out.2 hb
        have hen := enters_all s1.k hin.st
        have HST := Lib.hid (step_any wr.drew S' g s1 (chunk[k].toNat) (UInt8.toNat_lt _) hin HS1.out)
        rw [hb] at d4
        clear hin
        have d0D : ({ heap := wr.heap, tape := wr.tape, drawn := wr.drawn + 1, os := wr.os, output := wr.output } : World).cell? ⟨g, 0, none⟩ = some (.func (.func s1.k) #[.pointer (some ⟨g, 0, none⟩)] #[]) := d0
        have r1 : (k : Int) < (chunk.size : Int) := by omega
        have r2 : 0 ≤ (k : Int) := by omega
        go_wp2_with fail
        go_region_with (refine HST.out.mono ?_; rintro e w2 ⟨rfl, S2, h2, hk2, hf2⟩; have e4 := h2.cell 4 (.int .i64 ((pstep s1 chunk[k].toNat).1.bad : Nat)) (fun _ => rfl); have f4 := h2.fz 4; have H2 := Lib.hid h2; have HKK := Lib.hid hk2; have HFF := Lib.hid hf2; clear h2 hk2 hf2)
        all_goals
          have HK2 : Hid (Keeps S w w2) := Lib.hid (HK1.out.drew.trans HKK.out HF1.out)
          have HF2 : Hid (Fresh w S S2) := Lib.hid (HF1.out.trans HK1.out HFF.out)
          have HM2 := Lib.hid H2.out.mem
          have hfeed := pwrite_succ s (bnat chunk) k (by rw [bnat_len]; exact hlt)
          rw [HE1.out, bnat_at chunk k hlt] at hfeed
          have hokc := pstep_okc s1 chunk[k].toNat
          rw [hokc.2.1.symm] at z1 z2
          have hun : pfeed s1 chunk[k].toNat = sTell (pstep s1 chunk[k].toNat).1 (pstep s1 chunk[k].toNat).2 (if (pstep s1 chunk[k].toNat).2 = 0 then (pstep s1 chunk[k].toNat).1.size + 1 else (pstep s1 chunk[k].toNat).1.size) := if_pos hb
          rw [hun] at hfeed
          obtain ⟨s2, hs2⟩ : ∃ s2, (pstep s1 chunk[k].toNat).1 = s2 := ⟨_, rfl⟩
          obtain ⟨cd, hcd⟩ : ∃ cd, (pstep s1 chunk[k].toNat).2 = cd := ⟨_, rfl⟩
          rw [hs2, hcd] at hfeed
          rw [hs2] at H2 z1 z2
          have HFE := Lib.hid hfeed
          have e3 := H2.out.cell 3 (.int .i64 s2.size) (fun _ => rfl)
          have f3 := H2.out.fz 3
          have HK4 : Hid (Keeps S w (w2.setCell ⟨g, 4, none⟩ (.int .i64 (cd : Nat)))) := Lib.hid (HK2.out.setCell (p := ⟨g, 4, none⟩) (HF2.out g HM2.out) _)
          have HS4 := Lib.hid (H2.out.store 4 (.int .i64 (cd : Nat)) (sTell s2 cd s2.size) (fun _ => rfl) rfl)
          rw [hcd]
          clear hfeed hokc hun hs2 hcd d0 d0D d3 d4 hen hfn
          by_cases hc0 : cd = 0
          · subst hc0
            have HS5 := Lib.hid (HS4.out.store 3 (.int .i64 (s2.size + 1)) (sTell s2 0 (s2.size + 1)) (fun _ => rfl) rfl)
            have HK5 := Lib.hid (HK4.out.setCell (p := ⟨g, 3, none⟩) (HF2.out g HM2.out) (.int .i64 (s2.size + 1)))
            go_wp2_with fail
            go_roundw
            case rel => exact ⟨k + 1, S2, by rw [bnat_len]; omega, by go_num, by rw [HFE.out]; exact HS5.out, HK5.out, HF2.out⟩
            case measure => simp [intOf]; omega
          · have hq : (((cd : Nat) : Int) == 0) = false := eqF (by omega)
            have HC0 := Lib.hid hc0
            clear hc0
            go_wp2_with fail
            go_roundw
            case rel => exact ⟨k + 1, S2, by rw [bnat_len]; omega, by go_num, by rw [HFE.out, if_neg HC0.out]; exact HS4.out, HK4.out, HF2.out⟩
            case measure => simp [intOf]; omega
      · have hq : (((s1.bad : Nat) : Int) == 0) = false := eqF (by omega)
        have HEND : Hid (pwrite s (bnat chunk) = s1) := Lib.hid (by rw [pwrite_take_bad s (bnat chunk) k (by rw [HE1.out]; exact hb), HE1.out])
        have HN := Lib.hid (fault_new wr.drew a ((HE.out.keeps HK1.out HSE.out).below ((Below.refl _ _).drew)) s1.bad HGD.out.1 s1.size)
        clear hb
        go_wp2_with fail
        have d4D : ({ heap := wr.heap, tape := wr.tape, drawn := wr.drawn + 1, os := wr.os, output := wr.output } : World).cell? ⟨g, 4, none⟩ = some (.int .i64 (s1.bad : Nat)) := d4
        have d3D : ({ heap := wr.heap, tape := wr.tape, drawn := wr.drawn + 1, os := wr.os, output := wr.output } : World).cell? ⟨g, 3, none⟩ = some (.int .i64 s1.size) := d3
        go_still_tail 8, (by kernel_rfl)
        change wpList _ _ _ _ _ wr.drew
        go_wp2_with fail
        refine HN.out.mono ?_
        rintro e w2 ⟨v, rfl, hv, hb2⟩
        have HV := Lib.hid hv
        have HB2 := Lib.hid (below_undrew hb2)
        clear hv hb2
        go_wp2_with fail
        go_ret
        exact ⟨v, rfl, by rw [HEND.out]; exact HV.out.mono HK1.out.size, S', by rw [HEND.out]; exact HS1.out.keeps (S := S') (T := fun _ => False) (Keeps.of_below HB2.out) (fun _ _ h => h), HK1.out.trans (Keeps.of_below HB2.out) (S' := fun _ => False) (fun _ h => h.elim), HF1.out⟩
    · have HEND : Hid (pwrite s (bnat chunk) = s1) := Lib.hid (by rw [← HE1.out, List.take_of_length_le (by rw [bnat_len]; omega)])
      have HN := Lib.hid (fault_new wr.drew a ((HE.out.keeps HK1.out HSE.out).below ((Below.refl _ _).drew)) s1.bad HGD.out.1 s1.size)
      go_wp2_with fail
      have d4D : ({ heap := wr.heap, tape := wr.tape, drawn := wr.drawn + 1, os := wr.os, output := wr.output } : World).cell? ⟨g, 4, none⟩ = some (.int .i64 (s1.bad : Nat)) := d4
      have d3D : ({ heap := wr.heap, tape := wr.tape, drawn := wr.drawn + 1, os := wr.os, output := wr.output } : World).cell? ⟨g, 3, none⟩ = some (.int .i64 s1.size) := d3
      go_still_tail 8, (by kernel_rfl)
      change wpList _ _ _ _ _ wr.drew
      go_wp2_with fail
      refine HN.out.mono ?_
      rintro e w2 ⟨v, rfl, hv, hb2⟩
      have HV := Lib.hid hv
      have HB2 := Lib.hid (below_undrew hb2)
      clear hv hb2
      go_wp2_with fail
      go_ret
      exact ⟨v, rfl, by rw [HEND.out]; exact HV.out.mono HK1.out.size, S', by rw [HEND.out]; exact HS1.out.keeps (S := S') (T := fun _ => False) (Keeps.of_below HB2.out) (fun _ _ h => h), HK1.out.trans (Keeps.of_below HB2.out) (S' := fun _ => False) (fun _ h => h.elim), HF1.out⟩
end Go.Proofs.YtjfeebbhkolmoaaDoor
