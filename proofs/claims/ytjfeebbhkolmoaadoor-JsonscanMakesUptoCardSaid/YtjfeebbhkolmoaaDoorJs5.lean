/- Contracts of jsonscan's word, text, follow, stroke, number, letter. -/
import Derived.Test.YtjfeebbhkolmoaaDoorJs4
import Derived.Lib.TrimByte
namespace Go.Proofs.YtjfeebbhkolmoaaDoor
open Go.RowKit
set_option linter.unusedVariables false

theorem rest_cons (R : ByteArray) (x : UInt8) (l : List UInt8) (h : R.data.toList = x :: l) : 0 < R.size ∧ (∀ h0 : 0 < R.size, R[0] = x) ∧ R.extract 1 R.size = ⟨l.toArray⟩ := by
  have hs : R.size = l.length + 1 := by
    have : R.data.toList.length = R.size := by rw [Array.length_toList]; rfl
    rw [← this, h]; simp
  refine ⟨by omega, fun h0 => ?_, ?_⟩
  · have h1 : R.data.toList[0]? = some R[0] := by rw [List.getElem?_eq_getElem (by rw [h]; simp)]; rfl
    rw [h] at h1
    simpa using h1.symm
  · rw [Lib.extract_from, h]; rfl

set_option maxRecDepth 100000 in
theorem word_no (w : World) (S : Nat → Prop) (g : Nat) (s : Sc) (c : Nat) (x : UInt8) (l : List UInt8) (hr : s.rest.data.toList = x :: l) (hne : c ≠ x.toNat) (hs : ScAt w S g s) :
    Calls Tryd.prog 52 #[.pointer (some ⟨g, 0, none⟩), .int .u8 c] w (ScPost w S g (s, 3)) := by
  obtain ⟨h0, hx, -⟩ := rest_cons s.rest x l hr
  have d5 := hs.cell 5 (.string s.rest) (fun _ => rfl)
  have HS := Lib.hid hs
  clear hs hr
  generalize s.rest = R at *
  have hi0 : (0 : Int) < (R.size : Int) := by omega
  have hq : ((c : Int) != (R[0].toNat : Int)) = true := by
    rw [bne_iff_ne, hx h0]; omega
  clear hne hx
  go_enter Tryd.func52, Tryd.ntmps52
  go_wp2_with fail
  go_ret
  exact ScPost.stay HS.out 3

set_option maxRecDepth 100000 in
theorem word_yes (w : World) (S : Nat → Prop) (g : Nat) (s : Sc) (x : UInt8) (l : List UInt8) (hr : s.rest.data.toList = x :: l) (hs : ScAt w S g s) :
    Calls Tryd.prog 52 #[.pointer (some ⟨g, 0, none⟩), .int .u8 (x.toNat : Nat)] w (ScPost w S g (if l = [] then (sTo (sRest s ⟨l.toArray⟩) jAfter true, 0) else (sRest s ⟨l.toArray⟩, 0))) := by
  have hmf := mk_f
  obtain ⟨h0, hx, hT⟩ := rest_cons s.rest x l hr
  have d5 := hs.cell 5 (.string s.rest) (fun _ => rfl)
  have f5 := hs.fz 5
  have HM := Lib.hid hs.mem
  have HS2 := Lib.hid (hs.store 5 (.string ⟨l.toArray⟩) (sRest s ⟨l.toArray⟩) (fun _ => rfl) rfl)
  have HT := Lib.hid (to_any _ S g (sRest s ⟨l.toArray⟩) jAfter true HS2.out)
  unfold jAfter at HT
  clear hs hr
  generalize s.rest = R at *
  have hi0 : (0 : Int) < (R.size : Int) := by omega
  have hi1 : (1 : Int) ≤ (R.size : Int) := by omega
  have hq : (((x.toNat : Nat) : Int) != (R[0].toNat : Int)) = false := by rw [hx h0]; simp
  have hle : (⟨l.toArray⟩ : ByteArray).toList = l := by rw [Lib.toList_data]
  clear hx
  by_cases hl : l = []
  · subst hl
    rw [if_pos rfl]
    have h1 : (⟨#[]⟩ : ByteArray).toList = [] := hle
    generalize (⟨([] : List UInt8).toArray⟩ : ByteArray) = T at *
    have h2 : T.toList = [] := hle
    clear hle h1
    go_enter Tryd.func52, Tryd.ntmps52
    go_wp2_with fail
    refine HT.out.mono ?_
    rintro e w2 ⟨rfl, h2⟩
    have H2 := Lib.hid h2
    clear h2
    go_wp2_with fail
    go_ret
    exact ScPost.after ((Keeps.refl _ w).setCell (p := ⟨g, 5, none⟩) (.inl HM.out) _) (Fresh.refl _ _) ⟨rfl, H2.out⟩
  · rw [if_neg hl]
    generalize (⟨l.toArray⟩ : ByteArray) = T at *
    have h1 : T.toList.isEmpty = false := by rw [hle]; simpa using hl
    clear hle hl
    go_enter Tryd.func52, Tryd.ntmps52
    go_wp2_with fail
    go_ret
    exact ⟨rfl, S, HS2.out, (Keeps.refl _ w).setCell (p := ⟨g, 5, none⟩) (.inl HM.out) _, Fresh.refl _ _⟩

theorem word_any (w : World) (S : Nat → Prop) (g : Nat) (s : Sc) (c : Nat) (hs : ScAt w S g s) (hr : s.rest.data.toList ≠ []) :
    Calls Tryd.prog 52 #[.pointer (some ⟨g, 0, none⟩), .int .u8 c] w (ScPost w S g (pWord s c)) := by
  unfold pWord
  cases hl : s.rest.data.toList with
  | nil => exact absurd hl hr
  | cons x l =>
    simp only []
    by_cases h : c = x.toNat
    · rw [if_pos h]; subst h; exact word_yes w S g s x l hl hs
    · rw [if_neg h]; exact word_no w S g s c x l hl h hs

set_option maxRecDepth 100000 in
theorem number_any (w : World) (S : Nat → Prop) (g : Nat) (s : Sc) (p : Bool) (hs : ScAt w S g s) :
    Calls Tryd.prog 84 #[.pointer (some ⟨g, 0, none⟩), .bool p] w (ScPost w S g (sNumber s p, 0)) := by
  have hmf := mk_f
  have HM := Lib.hid hs.mem
  have d7 := hs.cell 7 (.int .i64 (s.left : Nat)) (fun _ => rfl)
  have d10 := hs.cell 10 (.int .i64 (s.unit : Nat)) (fun _ => rfl)
  have d11 := hs.cell 11 (.bool s.pair) (fun _ => rfl)
  have f7 := hs.fz 7
  have f10 := hs.fz 10
  have f11 := hs.fz 11
  have HS2 := Lib.hid (((hs.store 7 (.int .i64 4) { s with left := 4 } (fun _ => rfl) rfl).store 10 (.int .i64 0) { s with left := 4, unit := 0 } (fun _ => rfl) rfl).store 11 (.bool p) { s with left := 4, unit := 0, pair := p } (fun _ => rfl) rfl)
  have HT := Lib.hid (to_any _ S g _ jHex false HS2.out)
  unfold jHex at HT
  clear hs
  go_enter Tryd.func84, Tryd.ntmps84
  go_wp2_with fail
  refine HT.out.mono ?_
  rintro e w2 ⟨rfl, h2⟩
  have H2 := Lib.hid h2
  clear h2
  go_wp2_with fail
  go_ret
  exact ScPost.after ((((Keeps.refl _ w).setCell (p := ⟨g, 7, none⟩) (.inl HM.out) _).setCell (p := ⟨g, 10, none⟩) (.inl HM.out) _).setCell (p := ⟨g, 11, none⟩) (.inl HM.out) _) (Fresh.refl _ _) ⟨rfl, H2.out⟩

set_option maxRecDepth 100000 in
set_option maxHeartbeats 1500000 in
theorem letter_yes (w : World) (S : Nat → Prop) (g : Nat) (s : Sc) (hs : ScAt w S g s) :
    Calls Tryd.prog 102 #[.pointer (some ⟨g, 0, none⟩), .int .u8 117] w (ScPost w S g (sNumber s true, 0)) := by
  have hmf := mk_f
  have HS := Lib.hid hs
  have HM := Lib.hid hs.mem
  have HT := Lib.hid (number_any _ S g s true HS.out)
  clear hs 
  go_enter Tryd.func102, Tryd.ntmps102
  go_wp2_with fail
  refine HT.out.mono ?_
  rintro e w2 ⟨rfl, h2⟩
  have H2 := Lib.hid h2
  clear h2
  go_wp2_with fail
  go_ret
  exact ⟨rfl, H2.out⟩

set_option maxRecDepth 100000 in
set_option maxHeartbeats 1500000 in
theorem letter_no (w : World) (S : Nat → Prop) (g : Nat) (s : Sc) (c : Nat) (h : c ≠ 117) (hs : ScAt w S g s) :
    Calls Tryd.prog 102 #[.pointer (some ⟨g, 0, none⟩), .int .u8 c] w (ScPost w S g (s, 3)) := by
  have hmf := mk_f
  have q1 : ((c : Int) != 117) = true := by rw [bne_iff_ne]; omega
  have HS := Lib.hid hs
  have HM := Lib.hid hs.mem
  clear hs h
  go_enter Tryd.func102, Tryd.ntmps102
  go_wp2_with fail
  go_ret
  exact ScPost.stay HS.out 3

theorem letter_any (w : World) (S : Nat → Prop) (g : Nat) (s : Sc) (c : Nat) (hs : ScAt w S g s) :
    Calls Tryd.prog 102 #[.pointer (some ⟨g, 0, none⟩), .int .u8 c] w (ScPost w S g (pLetter s c)) := by
  unfold pLetter
  by_cases h1 : c = 117
  · rw [if_pos h1]; subst h1; exact letter_yes w S g s hs
  rw [if_neg h1]
  exact letter_no w S g s c h1 hs

set_option maxRecDepth 100000 in
set_option maxHeartbeats 1500000 in
theorem stroke_34 (w : World) (S : Nat → Prop) (g : Nat) (s : Sc) (hs : ScAt w S g s) :
    Calls Tryd.prog 70 #[.pointer (some ⟨g, 0, none⟩), .int .u8 34] w (ScPost w S g (sTo s jText false, 0)) := by
  have hmf := mk_f
  have HS := Lib.hid hs
  have HM := Lib.hid hs.mem
  have HT := Lib.hid (to_any _ S g s jText false HS.out)
  unfold jText at HT
  clear hs 
  go_enter Tryd.func70, Tryd.ntmps70
  go_wp2_with fail
  refine HT.out.mono ?_
  rintro e w2 ⟨rfl, h2⟩
  have H2 := Lib.hid h2
  clear h2
  go_wp2_with fail
  go_ret
  exact ⟨rfl, H2.out⟩

set_option maxRecDepth 100000 in
set_option maxHeartbeats 1500000 in
theorem stroke_92 (w : World) (S : Nat → Prop) (g : Nat) (s : Sc) (hs : ScAt w S g s) :
    Calls Tryd.prog 70 #[.pointer (some ⟨g, 0, none⟩), .int .u8 92] w (ScPost w S g (sTo s jText false, 0)) := by
  have hmf := mk_f
  have HS := Lib.hid hs
  have HM := Lib.hid hs.mem
  have HT := Lib.hid (to_any _ S g s jText false HS.out)
  unfold jText at HT
  clear hs 
  go_enter Tryd.func70, Tryd.ntmps70
  go_wp2_with fail
  refine HT.out.mono ?_
  rintro e w2 ⟨rfl, h2⟩
  have H2 := Lib.hid h2
  clear h2
  go_wp2_with fail
  go_ret
  exact ⟨rfl, H2.out⟩

set_option maxRecDepth 100000 in
set_option maxHeartbeats 1500000 in
theorem stroke_47 (w : World) (S : Nat → Prop) (g : Nat) (s : Sc) (hs : ScAt w S g s) :
    Calls Tryd.prog 70 #[.pointer (some ⟨g, 0, none⟩), .int .u8 47] w (ScPost w S g (sTo s jText false, 0)) := by
  have hmf := mk_f
  have HS := Lib.hid hs
  have HM := Lib.hid hs.mem
  have HT := Lib.hid (to_any _ S g s jText false HS.out)
  unfold jText at HT
  clear hs 
  go_enter Tryd.func70, Tryd.ntmps70
  go_wp2_with fail
  refine HT.out.mono ?_
  rintro e w2 ⟨rfl, h2⟩
  have H2 := Lib.hid h2
  clear h2
  go_wp2_with fail
  go_ret
  exact ⟨rfl, H2.out⟩

set_option maxRecDepth 100000 in
set_option maxHeartbeats 1500000 in
theorem stroke_98 (w : World) (S : Nat → Prop) (g : Nat) (s : Sc) (hs : ScAt w S g s) :
    Calls Tryd.prog 70 #[.pointer (some ⟨g, 0, none⟩), .int .u8 98] w (ScPost w S g (sTo s jText false, 0)) := by
  have hmf := mk_f
  have HS := Lib.hid hs
  have HM := Lib.hid hs.mem
  have HT := Lib.hid (to_any _ S g s jText false HS.out)
  unfold jText at HT
  clear hs 
  go_enter Tryd.func70, Tryd.ntmps70
  go_wp2_with fail
  refine HT.out.mono ?_
  rintro e w2 ⟨rfl, h2⟩
  have H2 := Lib.hid h2
  clear h2
  go_wp2_with fail
  go_ret
  exact ⟨rfl, H2.out⟩

set_option maxRecDepth 100000 in
set_option maxHeartbeats 1500000 in
theorem stroke_102 (w : World) (S : Nat → Prop) (g : Nat) (s : Sc) (hs : ScAt w S g s) :
    Calls Tryd.prog 70 #[.pointer (some ⟨g, 0, none⟩), .int .u8 102] w (ScPost w S g (sTo s jText false, 0)) := by
  have hmf := mk_f
  have HS := Lib.hid hs
  have HM := Lib.hid hs.mem
  have HT := Lib.hid (to_any _ S g s jText false HS.out)
  unfold jText at HT
  clear hs 
  go_enter Tryd.func70, Tryd.ntmps70
  go_wp2_with fail
  refine HT.out.mono ?_
  rintro e w2 ⟨rfl, h2⟩
  have H2 := Lib.hid h2
  clear h2
  go_wp2_with fail
  go_ret
  exact ⟨rfl, H2.out⟩

set_option maxRecDepth 100000 in
set_option maxHeartbeats 1500000 in
theorem stroke_110 (w : World) (S : Nat → Prop) (g : Nat) (s : Sc) (hs : ScAt w S g s) :
    Calls Tryd.prog 70 #[.pointer (some ⟨g, 0, none⟩), .int .u8 110] w (ScPost w S g (sTo s jText false, 0)) := by
  have hmf := mk_f
  have HS := Lib.hid hs
  have HM := Lib.hid hs.mem
  have HT := Lib.hid (to_any _ S g s jText false HS.out)
  unfold jText at HT
  clear hs 
  go_enter Tryd.func70, Tryd.ntmps70
  go_wp2_with fail
  refine HT.out.mono ?_
  rintro e w2 ⟨rfl, h2⟩
  have H2 := Lib.hid h2
  clear h2
  go_wp2_with fail
  go_ret
  exact ⟨rfl, H2.out⟩

set_option maxRecDepth 100000 in
set_option maxHeartbeats 1500000 in
theorem stroke_114 (w : World) (S : Nat → Prop) (g : Nat) (s : Sc) (hs : ScAt w S g s) :
    Calls Tryd.prog 70 #[.pointer (some ⟨g, 0, none⟩), .int .u8 114] w (ScPost w S g (sTo s jText false, 0)) := by
  have hmf := mk_f
  have HS := Lib.hid hs
  have HM := Lib.hid hs.mem
  have HT := Lib.hid (to_any _ S g s jText false HS.out)
  unfold jText at HT
  clear hs 
  go_enter Tryd.func70, Tryd.ntmps70
  go_wp2_with fail
  refine HT.out.mono ?_
  rintro e w2 ⟨rfl, h2⟩
  have H2 := Lib.hid h2
  clear h2
  go_wp2_with fail
  go_ret
  exact ⟨rfl, H2.out⟩

set_option maxRecDepth 100000 in
set_option maxHeartbeats 1500000 in
theorem stroke_116 (w : World) (S : Nat → Prop) (g : Nat) (s : Sc) (hs : ScAt w S g s) :
    Calls Tryd.prog 70 #[.pointer (some ⟨g, 0, none⟩), .int .u8 116] w (ScPost w S g (sTo s jText false, 0)) := by
  have hmf := mk_f
  have HS := Lib.hid hs
  have HM := Lib.hid hs.mem
  have HT := Lib.hid (to_any _ S g s jText false HS.out)
  unfold jText at HT
  clear hs 
  go_enter Tryd.func70, Tryd.ntmps70
  go_wp2_with fail
  refine HT.out.mono ?_
  rintro e w2 ⟨rfl, h2⟩
  have H2 := Lib.hid h2
  clear h2
  go_wp2_with fail
  go_ret
  exact ⟨rfl, H2.out⟩

set_option maxRecDepth 100000 in
set_option maxHeartbeats 1500000 in
theorem stroke_117 (w : World) (S : Nat → Prop) (g : Nat) (s : Sc) (hs : ScAt w S g s) :
    Calls Tryd.prog 70 #[.pointer (some ⟨g, 0, none⟩), .int .u8 117] w (ScPost w S g (sNumber s false, 0)) := by
  have hmf := mk_f
  have HS := Lib.hid hs
  have HM := Lib.hid hs.mem
  have HT := Lib.hid (number_any _ S g s false HS.out)
  clear hs 
  go_enter Tryd.func70, Tryd.ntmps70
  go_wp2_with fail
  refine HT.out.mono ?_
  rintro e w2 ⟨rfl, h2⟩
  have H2 := Lib.hid h2
  clear h2
  go_wp2_with fail
  go_ret
  exact ⟨rfl, H2.out⟩

set_option maxRecDepth 100000 in
set_option maxHeartbeats 1500000 in
theorem stroke_no (w : World) (S : Nat → Prop) (g : Nat) (s : Sc) (c : Nat) (h : ¬ (c = 34 ∨ c = 92 ∨ c = 47 ∨ c = 98 ∨ c = 102 ∨ c = 110 ∨ c = 114 ∨ c = 116)) (h2 : c ≠ 117) (hs : ScAt w S g s) :
    Calls Tryd.prog 70 #[.pointer (some ⟨g, 0, none⟩), .int .u8 c] w (ScPost w S g (s, 3)) := by
  have hmf := mk_f
  have q34 : ((c : Int) == 34) = false := eqF (by omega)
  have q92 : ((c : Int) == 92) = false := eqF (by omega)
  have q47 : ((c : Int) == 47) = false := eqF (by omega)
  have q98 : ((c : Int) == 98) = false := eqF (by omega)
  have q102 : ((c : Int) == 102) = false := eqF (by omega)
  have q110 : ((c : Int) == 110) = false := eqF (by omega)
  have q114 : ((c : Int) == 114) = false := eqF (by omega)
  have q116 : ((c : Int) == 116) = false := eqF (by omega)
  have q117 : ((c : Int) == 117) = false := eqF (by omega)
  have HS := Lib.hid hs
  have HM := Lib.hid hs.mem
  clear hs h h2
  go_enter Tryd.func70, Tryd.ntmps70
  go_wp2_with fail
  go_ret
  exact ScPost.stay HS.out 3

theorem stroke_any (w : World) (S : Nat → Prop) (g : Nat) (s : Sc) (c : Nat) (hs : ScAt w S g s) :
    Calls Tryd.prog 70 #[.pointer (some ⟨g, 0, none⟩), .int .u8 c] w (ScPost w S g (pStroke s c)) := by
  unfold pStroke
  by_cases h1 : c = 34 ∨ c = 92 ∨ c = 47 ∨ c = 98 ∨ c = 102 ∨ c = 110 ∨ c = 114 ∨ c = 116
  · rw [if_pos h1]
    rcases h1 with rfl | rfl | rfl | rfl | rfl | rfl | rfl | rfl
    · exact stroke_34 w S g s hs
    · exact stroke_92 w S g s hs
    · exact stroke_47 w S g s hs
    · exact stroke_98 w S g s hs
    · exact stroke_102 w S g s hs
    · exact stroke_110 w S g s hs
    · exact stroke_114 w S g s hs
    · exact stroke_116 w S g s hs
  rw [if_neg h1]
  by_cases h2 : c = 117
  · rw [if_pos h2]; subst h2; exact stroke_117 w S g s hs
  rw [if_neg h2]
  exact stroke_no w S g s c h1 h2 hs

set_option maxRecDepth 100000 in
set_option maxHeartbeats 1500000 in
theorem follow_low (w : World) (S : Nat → Prop) (g : Nat) (s : Sc) (c : Nat) (h : c < s.low) (hs : ScAt w S g s) :
    Calls Tryd.prog 71 #[.pointer (some ⟨g, 0, none⟩), .int .u8 c] w (ScPost w S g (s, 3)) := by
  have hmf := mk_f
  have d8 := hs.cell 8 (.int .u8 (s.low : Nat)) (fun _ => rfl)
  have d9 := hs.cell 9 (.int .u8 (s.high : Nat)) (fun _ => rfl)
  have q1 : (c : Int) < ((s.low : Nat) : Int) := by omega
  have HS := Lib.hid hs
  have HM := Lib.hid hs.mem
  clear hs h
  go_enter Tryd.func71, Tryd.ntmps71
  go_wp2_with fail
  go_ret
  exact ScPost.stay HS.out 3

set_option maxRecDepth 100000 in
set_option maxHeartbeats 1500000 in
theorem follow_high (w : World) (S : Nat → Prop) (g : Nat) (s : Sc) (c : Nat) (h : ¬ c < s.low) (h2 : s.high < c) (hs : ScAt w S g s) :
    Calls Tryd.prog 71 #[.pointer (some ⟨g, 0, none⟩), .int .u8 c] w (ScPost w S g (s, 3)) := by
  have hmf := mk_f
  have d8 := hs.cell 8 (.int .u8 (s.low : Nat)) (fun _ => rfl)
  have d9 := hs.cell 9 (.int .u8 (s.high : Nat)) (fun _ => rfl)
  have q1 : ¬ (c : Int) < ((s.low : Nat) : Int) := by omega
  have q2 : ((s.high : Nat) : Int) < (c : Int) := by omega
  have HS := Lib.hid hs
  have HM := Lib.hid hs.mem
  clear hs h h2
  go_enter Tryd.func71, Tryd.ntmps71
  go_wp2_with fail
  go_ret
  exact ScPost.stay HS.out 3

set_option maxRecDepth 100000 in
set_option maxHeartbeats 1500000 in
theorem follow_last (w : World) (S : Nat → Prop) (g : Nat) (s : Sc) (c : Nat) (h : ¬ c < s.low) (h2 : ¬ s.high < c) (hn : s.left = 1) (hs : ScAt w S g s) :
    Calls Tryd.prog 71 #[.pointer (some ⟨g, 0, none⟩), .int .u8 c] w (ScPost w S g (sTo (sBytes s 0 128 191) jText false, 0)) := by
  have hmf := mk_f
  have d8 := hs.cell 8 (.int .u8 (s.low : Nat)) (fun _ => rfl)
  have d9 := hs.cell 9 (.int .u8 (s.high : Nat)) (fun _ => rfl)
  have f7 := hs.fz 7
  have f8 := hs.fz 8
  have f9 := hs.fz 9
  have d7 := hs.cell 7 (.int .i64 (s.left : Nat)) (fun _ => rfl)
  rw [hn] at d7
  have q1 : ¬ (c : Int) < ((s.low : Nat) : Int) := by omega
  have q2 : ¬ ((s.high : Nat) : Int) < (c : Int) := by omega
  have HM := Lib.hid hs.mem
  have HS2 := Lib.hid (((hs.store 8 (.int .u8 128) { s with low := 128 } (fun _ => rfl) rfl).store 9 (.int .u8 191) { s with low := 128, high := 191 } (fun _ => rfl) rfl).store 7 (.int .i64 0) (sBytes s 0 128 191) (fun _ => rfl) rfl)
  have HT := Lib.hid (to_any _ S g _ jText false HS2.out)
  unfold jText at HT
  clear hs h h2 hn
  go_enter Tryd.func71, Tryd.ntmps71
  go_wp2_with fail
  refine HT.out.mono ?_
  rintro e w2 ⟨rfl, h2⟩
  have H2 := Lib.hid h2
  clear h2
  go_wp2_with fail
  go_ret
  exact ScPost.after ((((Keeps.refl _ w).setCell (p := ⟨g, 8, none⟩) (.inl HM.out) _).setCell (p := ⟨g, 9, none⟩) (.inl HM.out) _).setCell (p := ⟨g, 7, none⟩) (.inl HM.out) _) (Fresh.refl _ _) ⟨rfl, H2.out⟩

set_option maxRecDepth 100000 in
set_option maxHeartbeats 1500000 in
theorem follow_more (w : World) (S : Nat → Prop) (g : Nat) (s : Sc) (c n : Nat) (h : ¬ c < s.low) (h2 : ¬ s.high < c) (hn : s.left = n + 1) (hn0 : n ≠ 0 ∧ n ≤ 10) (hs : ScAt w S g s) :
    Calls Tryd.prog 71 #[.pointer (some ⟨g, 0, none⟩), .int .u8 c] w (ScPost w S g (sBytes s n 128 191, 0)) := by
  have hmf := mk_f
  have d8 := hs.cell 8 (.int .u8 (s.low : Nat)) (fun _ => rfl)
  have d9 := hs.cell 9 (.int .u8 (s.high : Nat)) (fun _ => rfl)
  have f7 := hs.fz 7
  have f8 := hs.fz 8
  have f9 := hs.fz 9
  have d7 := hs.cell 7 (.int .i64 (s.left : Nat)) (fun _ => rfl)
  rw [hn] at d7
  have q1 : ¬ (c : Int) < ((s.low : Nat) : Int) := by omega
  have q2 : ¬ ((s.high : Nat) : Int) < (c : Int) := by omega
  have HM := Lib.hid hs.mem
  have HS2 := Lib.hid (((hs.store 8 (.int .u8 128) { s with low := 128 } (fun _ => rfl) rfl).store 9 (.int .u8 191) { s with low := 128, high := 191 } (fun _ => rfl) rfl).store 7 (.int .i64 n) (sBytes s n 128 191) (fun _ => rfl) rfl)
  have q3 : ((n : Int) == 0) = false := eqF (by omega)
  have q4 : (n : Int) ≤ 100 := by omega
  have q5 : 0 ≤ (n : Int) := by omega
  clear hs h h2 hn hn0
  go_enter Tryd.func71, Tryd.ntmps71
  go_wp2_with fail
  go_ret
  exact ⟨rfl, S, HS2.out, (((Keeps.refl _ w).setCell (p := ⟨g, 8, none⟩) (.inl HM.out) _).setCell (p := ⟨g, 9, none⟩) (.inl HM.out) _).setCell (p := ⟨g, 7, none⟩) (.inl HM.out) _, Fresh.refl _ _⟩

theorem follow_any (w : World) (S : Nat → Prop) (g : Nat) (s : Sc) (c : Nat) (hs : ScAt w S g s) (h1 : 1 ≤ s.left) (h3 : s.left ≤ 3) :
    Calls Tryd.prog 71 #[.pointer (some ⟨g, 0, none⟩), .int .u8 c] w (ScPost w S g (pFollow s c)) := by
  unfold pFollow
  by_cases ha : c < s.low
  · rw [if_pos (.inl ha)]; exact follow_low w S g s c ha hs
  by_cases hb : s.high < c
  · rw [if_pos (.inr hb)]; exact follow_high w S g s c ha hb hs
  rw [if_neg (by omega)]
  by_cases hn : s.left = 1
  · rw [if_pos hn]; exact follow_last w S g s c ha hb hn hs
  · rw [if_neg hn]
    obtain ⟨n, hn'⟩ : ∃ n, s.left = n + 1 := ⟨s.left - 1, by omega⟩
    have h := follow_more w S g s c n ha hb hn' (by omega) hs
    rw [show s.left - 1 = n by omega]
    exact h
end Go.Proofs.YtjfeebbhkolmoaaDoor
