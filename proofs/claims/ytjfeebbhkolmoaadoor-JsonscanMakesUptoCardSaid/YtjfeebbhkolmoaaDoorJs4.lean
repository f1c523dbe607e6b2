/- Contracts of the other methods of jsonscan.go. -/
import Derived.Test.YtjfeebbhkolmoaaDoorJs3
namespace Go.Proofs.YtjfeebbhkolmoaaDoor
open Go.RowKit
set_option linter.unusedVariables false

theorem or_not_e (c : Nat) (hc : c < 256) (h1 : c ≠ 101) (h2 : c ≠ 69) : (bits .or .u8 (c : Int) 32 == 101) = false := by
  have h : ∀ x : Fin 256, x.val ≠ 101 → x.val ≠ 69 → (bits .or .u8 (x.val : Int) 32 == 101) = false := by decide +kernel
  exact h ⟨c, hc⟩ h1 h2

set_option maxRecDepth 100000 in
set_option maxHeartbeats 1500000 in
theorem keys_blank (w : World) (S : Nat → Prop) (g : Nat) (s : Sc) (c : Nat) (hb : blankB c = true) (hs : ScAt w S g s) :
    Calls Tryd.prog 68 #[.pointer (some ⟨g, 0, none⟩), .int .u8 c] w (ScPost w S g (s, 0)) := by
  have hmf := mk_f
  have HS := Lib.hid hs
  have HM := Lib.hid hs.mem
  have HK := Lib.hid (blank_any c w)
  rw [show blankB c = true from by first | assumption | rfl] at HK
  clear hs hb
  go_enter Tryd.func68, Tryd.ntmps68
  go_wp2_with fail
  refine HK.out.mono ?_
  rintro e w2 ⟨rfl, rfl⟩
  go_wp2_with fail
  go_ret
  exact ScPost.stay HS.out 0

set_option maxRecDepth 100000 in
set_option maxHeartbeats 1500000 in
theorem keys_quote (w : World) (S : Nat → Prop) (g : Nat) (s : Sc) (hs : ScAt w S g s) :
    Calls Tryd.prog 68 #[.pointer (some ⟨g, 0, none⟩), .int .u8 34] w (ScPost w S g (sTo (sKey s true) jText false, 0)) := by
  have hmf := mk_f
  have HS := Lib.hid hs
  have HM := Lib.hid hs.mem
  have HK := Lib.hid (blank_any 34 w)
  rw [show blankB 34 = false from by first | assumption | rfl] at HK
  have f6 := hs.fz 6
  have d6 := hs.cell 6 (.bool s.key) (fun _ => rfl)
  have HS2 := Lib.hid (ScAt.store HS.out 6 (.bool true) (sKey s true) (fun _ => rfl) rfl)
  have HT := Lib.hid (to_any _ S g (sKey s true) jText false HS2.out)
  unfold jText at HT
  clear hs 
  go_enter Tryd.func68, Tryd.ntmps68
  go_wp2_with fail
  refine HK.out.mono ?_
  rintro e w2 ⟨rfl, rfl⟩
  go_wp2_with fail
  refine HT.out.mono ?_
  rintro e w2 ⟨rfl, h2⟩
  have H2 := Lib.hid h2
  clear h2
  go_wp2_with fail
  go_ret
  exact ScPost.after ((Keeps.refl _ w).setCell (p := ⟨g, 6, none⟩) (.inl HM.out) _) (Fresh.refl _ _) ⟨rfl, H2.out⟩

set_option maxRecDepth 100000 in
set_option maxHeartbeats 1500000 in
theorem keys_no (w : World) (S : Nat → Prop) (g : Nat) (s : Sc) (c : Nat) (hb : blankB c = false) (h34 : c ≠ 34) (hs : ScAt w S g s) :
    Calls Tryd.prog 68 #[.pointer (some ⟨g, 0, none⟩), .int .u8 c] w (ScPost w S g (s, 3)) := by
  have hmf := mk_f
  have q34 : ((c : Int) == 34) = false := eqF (by omega)
  have HS := Lib.hid hs
  have HM := Lib.hid hs.mem
  have HK := Lib.hid (blank_any c w)
  rw [show blankB c = false from by first | assumption | rfl] at HK
  clear hs hb h34
  go_enter Tryd.func68, Tryd.ntmps68
  go_wp2_with fail
  refine HK.out.mono ?_
  rintro e w2 ⟨rfl, rfl⟩
  go_wp2_with fail
  go_ret
  exact ScPost.stay HS.out 3

theorem keys_any (w : World) (S : Nat → Prop) (g : Nat) (s : Sc) (c : Nat) (hs : ScAt w S g s) :
    Calls Tryd.prog 68 #[.pointer (some ⟨g, 0, none⟩), .int .u8 c] w (ScPost w S g (pKeys s c)) := by
  unfold pKeys
  by_cases h0 : blankB c = true
  · rw [if_pos h0]; exact keys_blank w S g s c h0 hs
  rw [if_neg h0]
  by_cases h1 : c = 34
  · rw [if_pos h1]; subst h1; exact keys_quote w S g s hs
  rw [if_neg h1]
  exact keys_no w S g s c (by simpa using h0) h1 hs

set_option maxRecDepth 100000 in
set_option maxHeartbeats 1500000 in
theorem colon_blank (w : World) (S : Nat → Prop) (g : Nat) (s : Sc) (c : Nat) (hb : blankB c = true) (hs : ScAt w S g s) :
    Calls Tryd.prog 69 #[.pointer (some ⟨g, 0, none⟩), .int .u8 c] w (ScPost w S g (s, 0)) := by
  have hmf := mk_f
  have HS := Lib.hid hs
  have HM := Lib.hid hs.mem
  have HK := Lib.hid (blank_any c w)
  rw [show blankB c = true from by first | assumption | rfl] at HK
  clear hs hb
  go_enter Tryd.func69, Tryd.ntmps69
  go_wp2_with fail
  refine HK.out.mono ?_
  rintro e w2 ⟨rfl, rfl⟩
  go_wp2_with fail
  go_ret
  exact ScPost.stay HS.out 0

set_option maxRecDepth 100000 in
set_option maxHeartbeats 1500000 in
theorem colon_yes (w : World) (S : Nat → Prop) (g : Nat) (s : Sc) (hs : ScAt w S g s) :
    Calls Tryd.prog 69 #[.pointer (some ⟨g, 0, none⟩), .int .u8 58] w (ScPost w S g (sTo s jValue false, 0)) := by
  have hmf := mk_f
  have HS := Lib.hid hs
  have HM := Lib.hid hs.mem
  have HK := Lib.hid (blank_any 58 w)
  rw [show blankB 58 = false from by first | assumption | rfl] at HK
  have HT := Lib.hid (to_any _ S g s jValue false HS.out)
  unfold jValue at HT
  clear hs 
  go_enter Tryd.func69, Tryd.ntmps69
  go_wp2_with fail
  refine HK.out.mono ?_
  rintro e w2 ⟨rfl, rfl⟩
  go_wp2_with fail
  refine HT.out.mono ?_
  rintro e w2 ⟨rfl, h2⟩
  have H2 := Lib.hid h2
  clear h2
  go_wp2_with fail
  go_ret
  exact ⟨rfl, H2.out⟩

set_option maxRecDepth 100000 in
set_option maxHeartbeats 1500000 in
theorem colon_no (w : World) (S : Nat → Prop) (g : Nat) (s : Sc) (c : Nat) (hb : blankB c = false) (h : c ≠ 58) (hs : ScAt w S g s) :
    Calls Tryd.prog 69 #[.pointer (some ⟨g, 0, none⟩), .int .u8 c] w (ScPost w S g (s, 3)) := by
  have hmf := mk_f
  have q58 : ((c : Int) == 58) = false := eqF (by omega)
  have HS := Lib.hid hs
  have HM := Lib.hid hs.mem
  have HK := Lib.hid (blank_any c w)
  rw [show blankB c = false from by first | assumption | rfl] at HK
  clear hs hb h
  go_enter Tryd.func69, Tryd.ntmps69
  go_wp2_with fail
  refine HK.out.mono ?_
  rintro e w2 ⟨rfl, rfl⟩
  go_wp2_with fail
  go_ret
  exact ScPost.stay HS.out 3

theorem colon_any (w : World) (S : Nat → Prop) (g : Nat) (s : Sc) (c : Nat) (hs : ScAt w S g s) :
    Calls Tryd.prog 69 #[.pointer (some ⟨g, 0, none⟩), .int .u8 c] w (ScPost w S g (pColon s c)) := by
  unfold pColon
  by_cases h0 : blankB c = true
  · rw [if_pos h0]; exact colon_blank w S g s c h0 hs
  rw [if_neg h0]
  by_cases h1 : c = 58
  · rw [if_pos h1]; subst h1; exact colon_yes w S g s hs
  rw [if_neg h1]
  exact colon_no w S g s c (by simpa using h0) h1 hs

set_option maxRecDepth 100000 in
set_option maxHeartbeats 1500000 in
theorem firstItem_end (w : World) (S : Nat → Prop) (g : Nat) (s : Sc) (hs : ScAt w S g s) :
    Calls Tryd.prog 45 #[.pointer (some ⟨g, 0, none⟩), .int .u8 93] w (ScPost w S g (pAfter s 93)) := by
  have hmf := mk_f
  have HS := Lib.hid hs
  have HM := Lib.hid hs.mem
  have HT := Lib.hid (after_any _ S g s 93 HS.out)
  clear hs 
  go_enter Tryd.func45, Tryd.ntmps45
  go_wp2_with fail
  refine HT.out.mono ?_
  rintro e w2 ⟨rfl, h2⟩
  have H2 := Lib.hid h2
  clear h2
  go_wp2_with fail
  go_ret
  exact ⟨rfl, H2.out⟩

set_option maxRecDepth 100000 in
set_option maxHeartbeats 1500000 in
theorem firstItem_on (w : World) (S : Nat → Prop) (g : Nat) (s : Sc) (c : Nat) (h : c ≠ 93) (hl : s.open_.length ≤ 128) (hs : ScAt w S g s) :
    Calls Tryd.prog 45 #[.pointer (some ⟨g, 0, none⟩), .int .u8 c] w (ScPost w S g (pValue s c)) := by
  have hmf := mk_f
  have q93 : ((c : Int) == 93) = false := eqF (by omega)
  have HS := Lib.hid hs
  have HM := Lib.hid hs.mem
  have HT := Lib.hid (value_any _ S g s c HS.out hl)
  clear hs h hl
  go_enter Tryd.func45, Tryd.ntmps45
  go_wp2_with fail
  refine HT.out.mono ?_
  rintro e w2 ⟨rfl, h2⟩
  have H2 := Lib.hid h2
  clear h2
  go_wp2_with fail
  go_ret
  exact ⟨rfl, H2.out⟩

theorem firstItem_any (w : World) (S : Nat → Prop) (g : Nat) (s : Sc) (c : Nat) (hs : ScAt w S g s) (hl : s.open_.length ≤ 128) :
    Calls Tryd.prog 45 #[.pointer (some ⟨g, 0, none⟩), .int .u8 c] w (ScPost w S g (pFirstItem s c)) := by
  unfold pFirstItem
  by_cases h1 : c = 93
  · rw [if_pos h1]; subst h1; exact firstItem_end w S g s hs
  rw [if_neg h1]
  exact firstItem_on w S g s c h1 hl hs

set_option maxRecDepth 100000 in
set_option maxHeartbeats 1500000 in
theorem firstKey_end (w : World) (S : Nat → Prop) (g : Nat) (s : Sc) (hs : ScAt w S g s) :
    Calls Tryd.prog 46 #[.pointer (some ⟨g, 0, none⟩), .int .u8 125] w (ScPost w S g (pAfter s 125)) := by
  have hmf := mk_f
  have HS := Lib.hid hs
  have HM := Lib.hid hs.mem
  have HT := Lib.hid (after_any _ S g s 125 HS.out)
  clear hs 
  go_enter Tryd.func46, Tryd.ntmps46
  go_wp2_with fail
  refine HT.out.mono ?_
  rintro e w2 ⟨rfl, h2⟩
  have H2 := Lib.hid h2
  clear h2
  go_wp2_with fail
  go_ret
  exact ⟨rfl, H2.out⟩

set_option maxRecDepth 100000 in
set_option maxHeartbeats 1500000 in
theorem firstKey_on (w : World) (S : Nat → Prop) (g : Nat) (s : Sc) (c : Nat) (h : c ≠ 125) (hs : ScAt w S g s) :
    Calls Tryd.prog 46 #[.pointer (some ⟨g, 0, none⟩), .int .u8 c] w (ScPost w S g (pKeys s c)) := by
  have hmf := mk_f
  have q125 : ((c : Int) == 125) = false := eqF (by omega)
  have HS := Lib.hid hs
  have HM := Lib.hid hs.mem
  have HT := Lib.hid (keys_any _ S g s c HS.out)
  clear hs h
  go_enter Tryd.func46, Tryd.ntmps46
  go_wp2_with fail
  refine HT.out.mono ?_
  rintro e w2 ⟨rfl, h2⟩
  have H2 := Lib.hid h2
  clear h2
  go_wp2_with fail
  go_ret
  exact ⟨rfl, H2.out⟩

theorem firstKey_any (w : World) (S : Nat → Prop) (g : Nat) (s : Sc) (c : Nat) (hs : ScAt w S g s) :
    Calls Tryd.prog 46 #[.pointer (some ⟨g, 0, none⟩), .int .u8 c] w (ScPost w S g (pFirstKey s c)) := by
  unfold pFirstKey
  by_cases h1 : c = 125
  · rw [if_pos h1]; subst h1; exact firstKey_end w S g s hs
  rw [if_neg h1]
  exact firstKey_on w S g s c h1 hs

set_option maxRecDepth 100000 in
set_option maxHeartbeats 1500000 in
theorem fraction_101 (w : World) (S : Nat → Prop) (g : Nat) (s : Sc) (hs : ScAt w S g s) :
    Calls Tryd.prog 73 #[.pointer (some ⟨g, 0, none⟩), .int .u8 101] w (ScPost w S g (sTo s jSign false, 0)) := by
  have hmf := mk_f
  have HS := Lib.hid hs
  have HM := Lib.hid hs.mem
  have HT := Lib.hid (to_any _ S g s jSign false HS.out)
  unfold jSign at HT
  clear hs 
  go_enter Tryd.func73, Tryd.ntmps73
  go_wp2_with fail
  refine HT.out.mono ?_
  rintro e w2 ⟨rfl, h2⟩
  have H2 := Lib.hid h2
  clear h2
  go_wp2_with fail
  go_ret
  exact ⟨rfl, H2.out⟩

set_option maxRecDepth 100000 in
set_option maxHeartbeats 1500000 in
theorem fraction_69 (w : World) (S : Nat → Prop) (g : Nat) (s : Sc) (hs : ScAt w S g s) :
    Calls Tryd.prog 73 #[.pointer (some ⟨g, 0, none⟩), .int .u8 69] w (ScPost w S g (sTo s jSign false, 0)) := by
  have hmf := mk_f
  have HS := Lib.hid hs
  have HM := Lib.hid hs.mem
  have HT := Lib.hid (to_any _ S g s jSign false HS.out)
  unfold jSign at HT
  clear hs 
  go_enter Tryd.func73, Tryd.ntmps73
  go_wp2_with fail
  refine HT.out.mono ?_
  rintro e w2 ⟨rfl, h2⟩
  have H2 := Lib.hid h2
  clear h2
  go_wp2_with fail
  go_ret
  exact ⟨rfl, H2.out⟩

set_option maxRecDepth 100000 in
set_option maxHeartbeats 1500000 in
theorem fraction_no (w : World) (S : Nat → Prop) (g : Nat) (s : Sc) (c : Nat) (hc : c < 256) (h : c ≠ 101 ∧ c ≠ 69) (hs : ScAt w S g s) :
    Calls Tryd.prog 73 #[.pointer (some ⟨g, 0, none⟩), .int .u8 c] w (ScPost w S g (pAfter s c)) := by
  have hmf := mk_f
  have hor := or_not_e c hc h.1 h.2
  have HS := Lib.hid hs
  have HM := Lib.hid hs.mem
  have HT := Lib.hid (after_any _ S g s c HS.out)
  clear hs hc h
  go_enter Tryd.func73, Tryd.ntmps73
  go_wp2_with fail
  refine HT.out.mono ?_
  rintro e w2 ⟨rfl, h2⟩
  have H2 := Lib.hid h2
  clear h2
  go_wp2_with fail
  go_ret
  exact ⟨rfl, H2.out⟩

theorem fraction_any (w : World) (S : Nat → Prop) (g : Nat) (s : Sc) (c : Nat) (hc : c < 256) (hs : ScAt w S g s) :
    Calls Tryd.prog 73 #[.pointer (some ⟨g, 0, none⟩), .int .u8 c] w (ScPost w S g (pFraction s c)) := by
  unfold pFraction
  by_cases h1 : c = 101
  · rw [if_pos (.inl h1)]; subst h1; exact fraction_101 w S g s hs
  by_cases h2 : c = 69
  · rw [if_pos (.inr h2)]; subst h2; exact fraction_69 w S g s hs
  rw [if_neg (by omega)]
  exact fraction_no w S g s c hc ⟨h1, h2⟩ hs

set_option maxRecDepth 100000 in
set_option maxHeartbeats 1500000 in
theorem zero_point (w : World) (S : Nat → Prop) (g : Nat) (s : Sc) (hs : ScAt w S g s) :
    Calls Tryd.prog 49 #[.pointer (some ⟨g, 0, none⟩), .int .u8 46] w (ScPost w S g (sTo s jPoint false, 0)) := by
  have hmf := mk_f
  have HS := Lib.hid hs
  have HM := Lib.hid hs.mem
  have HT := Lib.hid (to_any _ S g s jPoint false HS.out)
  unfold jPoint at HT
  clear hs 
  go_enter Tryd.func49, Tryd.ntmps49
  go_wp2_with fail
  refine HT.out.mono ?_
  rintro e w2 ⟨rfl, h2⟩
  have H2 := Lib.hid h2
  clear h2
  go_wp2_with fail
  go_ret
  exact ⟨rfl, H2.out⟩

set_option maxRecDepth 100000 in
set_option maxHeartbeats 1500000 in
theorem zero_on (w : World) (S : Nat → Prop) (g : Nat) (s : Sc) (c : Nat) (hc : c < 256) (h : c ≠ 46) (hs : ScAt w S g s) :
    Calls Tryd.prog 49 #[.pointer (some ⟨g, 0, none⟩), .int .u8 c] w (ScPost w S g (pFraction s c)) := by
  have hmf := mk_f
  have q46 : ((c : Int) == 46) = false := eqF (by omega)
  have HS := Lib.hid hs
  have HM := Lib.hid hs.mem
  have HT := Lib.hid (fraction_any _ S g s c hc HS.out)
  clear hs hc h
  go_enter Tryd.func49, Tryd.ntmps49
  go_wp2_with fail
  refine HT.out.mono ?_
  rintro e w2 ⟨rfl, h2⟩
  have H2 := Lib.hid h2
  clear h2
  go_wp2_with fail
  go_ret
  exact ⟨rfl, H2.out⟩

theorem zero_any (w : World) (S : Nat → Prop) (g : Nat) (s : Sc) (c : Nat) (hc : c < 256) (hs : ScAt w S g s) :
    Calls Tryd.prog 49 #[.pointer (some ⟨g, 0, none⟩), .int .u8 c] w (ScPost w S g (pZero s c)) := by
  unfold pZero
  by_cases h1 : c = 46
  · rw [if_pos h1]; subst h1; exact zero_point w S g s hs
  rw [if_neg h1]
  exact zero_on w S g s c hc h1 hs

set_option maxRecDepth 100000 in
set_option maxHeartbeats 1500000 in
theorem digits_yes (w : World) (S : Nat → Prop) (g : Nat) (s : Sc) (c : Nat) (hd : digitB c = true) (hs : ScAt w S g s) :
    Calls Tryd.prog 51 #[.pointer (some ⟨g, 0, none⟩), .int .u8 c] w (ScPost w S g (s, 0)) := by
  have hmf := mk_f
  have HS := Lib.hid hs
  have HM := Lib.hid hs.mem
  have HD := Lib.hid (digit_any c w)
  rw [show digitB c = true from by first | assumption | rfl] at HD
  clear hs hd
  go_enter Tryd.func51, Tryd.ntmps51
  go_wp2_with fail
  refine HD.out.mono ?_
  rintro e w2 ⟨rfl, rfl⟩
  go_wp2_with fail
  go_ret
  exact ScPost.stay HS.out 0

set_option maxRecDepth 100000 in
set_option maxHeartbeats 1500000 in
theorem digits_on (w : World) (S : Nat → Prop) (g : Nat) (s : Sc) (c : Nat) (hc : c < 256) (hd : digitB c = false) (hs : ScAt w S g s) :
    Calls Tryd.prog 51 #[.pointer (some ⟨g, 0, none⟩), .int .u8 c] w (ScPost w S g (pZero s c)) := by
  have hmf := mk_f
  have HS := Lib.hid hs
  have HM := Lib.hid hs.mem
  have HD := Lib.hid (digit_any c w)
  rw [show digitB c = false from by first | assumption | rfl] at HD
  have HT := Lib.hid (zero_any _ S g s c hc HS.out)
  clear hs hd hc
  go_enter Tryd.func51, Tryd.ntmps51
  go_wp2_with fail
  refine HD.out.mono ?_
  rintro e w2 ⟨rfl, rfl⟩
  go_wp2_with fail
  refine HT.out.mono ?_
  rintro e w2 ⟨rfl, h2⟩
  have H2 := Lib.hid h2
  clear h2
  go_wp2_with fail
  go_ret
  exact ⟨rfl, H2.out⟩

theorem digits_any (w : World) (S : Nat → Prop) (g : Nat) (s : Sc) (c : Nat) (hc : c < 256) (hs : ScAt w S g s) :
    Calls Tryd.prog 51 #[.pointer (some ⟨g, 0, none⟩), .int .u8 c] w (ScPost w S g (pDigits s c)) := by
  unfold pDigits
  cases hd : digitB c
  · rw [if_neg (by simp)]; exact digits_on w S g s c hc hd hs
  · rw [if_pos rfl]; exact digits_yes w S g s c hd hs

set_option maxRecDepth 100000 in
set_option maxHeartbeats 1500000 in
theorem behind_yes (w : World) (S : Nat → Prop) (g : Nat) (s : Sc) (c : Nat) (hd : digitB c = true) (hs : ScAt w S g s) :
    Calls Tryd.prog 85 #[.pointer (some ⟨g, 0, none⟩), .int .u8 c] w (ScPost w S g (s, 0)) := by
  have hmf := mk_f
  have HS := Lib.hid hs
  have HM := Lib.hid hs.mem
  have HD := Lib.hid (digit_any c w)
  rw [show digitB c = true from by first | assumption | rfl] at HD
  clear hs hd
  go_enter Tryd.func85, Tryd.ntmps85
  go_wp2_with fail
  refine HD.out.mono ?_
  rintro e w2 ⟨rfl, rfl⟩
  go_wp2_with fail
  go_ret
  exact ScPost.stay HS.out 0

set_option maxRecDepth 100000 in
set_option maxHeartbeats 1500000 in
theorem behind_on (w : World) (S : Nat → Prop) (g : Nat) (s : Sc) (c : Nat) (hc : c < 256) (hd : digitB c = false) (hs : ScAt w S g s) :
    Calls Tryd.prog 85 #[.pointer (some ⟨g, 0, none⟩), .int .u8 c] w (ScPost w S g (pFraction s c)) := by
  have hmf := mk_f
  have HS := Lib.hid hs
  have HM := Lib.hid hs.mem
  have HD := Lib.hid (digit_any c w)
  rw [show digitB c = false from by first | assumption | rfl] at HD
  have HT := Lib.hid (fraction_any _ S g s c hc HS.out)
  clear hs hd hc
  go_enter Tryd.func85, Tryd.ntmps85
  go_wp2_with fail
  refine HD.out.mono ?_
  rintro e w2 ⟨rfl, rfl⟩
  go_wp2_with fail
  refine HT.out.mono ?_
  rintro e w2 ⟨rfl, h2⟩
  have H2 := Lib.hid h2
  clear h2
  go_wp2_with fail
  go_ret
  exact ⟨rfl, H2.out⟩

theorem behind_any (w : World) (S : Nat → Prop) (g : Nat) (s : Sc) (c : Nat) (hc : c < 256) (hs : ScAt w S g s) :
    Calls Tryd.prog 85 #[.pointer (some ⟨g, 0, none⟩), .int .u8 c] w (ScPost w S g (pBehind s c)) := by
  unfold pBehind
  cases hd : digitB c
  · rw [if_neg (by simp)]; exact behind_on w S g s c hc hd hs
  · rw [if_pos rfl]; exact behind_yes w S g s c hd hs

set_option maxRecDepth 100000 in
set_option maxHeartbeats 1500000 in
theorem powers_yes (w : World) (S : Nat → Prop) (g : Nat) (s : Sc) (c : Nat) (hd : digitB c = true) (hs : ScAt w S g s) :
    Calls Tryd.prog 101 #[.pointer (some ⟨g, 0, none⟩), .int .u8 c] w (ScPost w S g (s, 0)) := by
  have hmf := mk_f
  have HS := Lib.hid hs
  have HM := Lib.hid hs.mem
  have HD := Lib.hid (digit_any c w)
  rw [show digitB c = true from by first | assumption | rfl] at HD
  clear hs hd
  go_enter Tryd.func101, Tryd.ntmps101
  go_wp2_with fail
  refine HD.out.mono ?_
  rintro e w2 ⟨rfl, rfl⟩
  go_wp2_with fail
  go_ret
  exact ScPost.stay HS.out 0

set_option maxRecDepth 100000 in
set_option maxHeartbeats 1500000 in
theorem powers_on (w : World) (S : Nat → Prop) (g : Nat) (s : Sc) (c : Nat) (hc : c < 256) (hd : digitB c = false) (hs : ScAt w S g s) :
    Calls Tryd.prog 101 #[.pointer (some ⟨g, 0, none⟩), .int .u8 c] w (ScPost w S g (pAfter s c)) := by
  have hmf := mk_f
  have HS := Lib.hid hs
  have HM := Lib.hid hs.mem
  have HD := Lib.hid (digit_any c w)
  rw [show digitB c = false from by first | assumption | rfl] at HD
  have HT := Lib.hid (after_any _ S g s c HS.out)
  clear hs hd hc
  go_enter Tryd.func101, Tryd.ntmps101
  go_wp2_with fail
  refine HD.out.mono ?_
  rintro e w2 ⟨rfl, rfl⟩
  go_wp2_with fail
  refine HT.out.mono ?_
  rintro e w2 ⟨rfl, h2⟩
  have H2 := Lib.hid h2
  clear h2
  go_wp2_with fail
  go_ret
  exact ⟨rfl, H2.out⟩

theorem powers_any (w : World) (S : Nat → Prop) (g : Nat) (s : Sc) (c : Nat) (hc : c < 256) (hs : ScAt w S g s) :
    Calls Tryd.prog 101 #[.pointer (some ⟨g, 0, none⟩), .int .u8 c] w (ScPost w S g (pPowers s c)) := by
  unfold pPowers
  cases hd : digitB c
  · rw [if_neg (by simp)]; exact powers_on w S g s c hc hd hs
  · rw [if_pos rfl]; exact powers_yes w S g s c hd hs

set_option maxRecDepth 100000 in
set_option maxHeartbeats 1500000 in
theorem point_yes (w : World) (S : Nat → Prop) (g : Nat) (s : Sc) (c : Nat) (hd : digitB c = true) (hs : ScAt w S g s) :
    Calls Tryd.prog 72 #[.pointer (some ⟨g, 0, none⟩), .int .u8 c] w (ScPost w S g (sTo s jBehind true, 0)) := by
  have hmf := mk_f
  have HS := Lib.hid hs
  have HM := Lib.hid hs.mem
  have HD := Lib.hid (digit_any c w)
  rw [show digitB c = true from by first | assumption | rfl] at HD
  have HT := Lib.hid (to_any _ S g s jBehind true HS.out)
  unfold jBehind at HT
  clear hs hd
  go_enter Tryd.func72, Tryd.ntmps72
  go_wp2_with fail
  refine HD.out.mono ?_
  rintro e w2 ⟨rfl, rfl⟩
  go_wp2_with fail
  refine HT.out.mono ?_
  rintro e w2 ⟨rfl, h2⟩
  have H2 := Lib.hid h2
  clear h2
  go_wp2_with fail
  go_ret
  exact ⟨rfl, H2.out⟩

set_option maxRecDepth 100000 in
set_option maxHeartbeats 1500000 in
theorem point_no (w : World) (S : Nat → Prop) (g : Nat) (s : Sc) (c : Nat) (hd : digitB c = false) (hs : ScAt w S g s) :
    Calls Tryd.prog 72 #[.pointer (some ⟨g, 0, none⟩), .int .u8 c] w (ScPost w S g (s, 3)) := by
  have hmf := mk_f
  have HS := Lib.hid hs
  have HM := Lib.hid hs.mem
  have HD := Lib.hid (digit_any c w)
  rw [show digitB c = false from by first | assumption | rfl] at HD
  clear hs hd
  go_enter Tryd.func72, Tryd.ntmps72
  go_wp2_with fail
  refine HD.out.mono ?_
  rintro e w2 ⟨rfl, rfl⟩
  go_wp2_with fail
  go_ret
  exact ScPost.stay HS.out 3

theorem point_any (w : World) (S : Nat → Prop) (g : Nat) (s : Sc) (c : Nat) (hs : ScAt w S g s) :
    Calls Tryd.prog 72 #[.pointer (some ⟨g, 0, none⟩), .int .u8 c] w (ScPost w S g (pPoint s c)) := by
  unfold pPoint
  cases hd : digitB c
  · rw [if_neg (by simp)]; exact point_no w S g s c hd hs
  · rw [if_pos rfl]; exact point_yes w S g s c hd hs

set_option maxRecDepth 100000 in
set_option maxHeartbeats 1500000 in
theorem power_yes (w : World) (S : Nat → Prop) (g : Nat) (s : Sc) (c : Nat) (hd : digitB c = true) (hs : ScAt w S g s) :
    Calls Tryd.prog 95 #[.pointer (some ⟨g, 0, none⟩), .int .u8 c] w (ScPost w S g (sTo s jPowers true, 0)) := by
  have hmf := mk_f
  have HS := Lib.hid hs
  have HM := Lib.hid hs.mem
  have HD := Lib.hid (digit_any c w)
  rw [show digitB c = true from by first | assumption | rfl] at HD
  have HT := Lib.hid (to_any _ S g s jPowers true HS.out)
  unfold jPowers at HT
  clear hs hd
  go_enter Tryd.func95, Tryd.ntmps95
  go_wp2_with fail
  refine HD.out.mono ?_
  rintro e w2 ⟨rfl, rfl⟩
  go_wp2_with fail
  refine HT.out.mono ?_
  rintro e w2 ⟨rfl, h2⟩
  have H2 := Lib.hid h2
  clear h2
  go_wp2_with fail
  go_ret
  exact ⟨rfl, H2.out⟩

set_option maxRecDepth 100000 in
set_option maxHeartbeats 1500000 in
theorem power_no (w : World) (S : Nat → Prop) (g : Nat) (s : Sc) (c : Nat) (hd : digitB c = false) (hs : ScAt w S g s) :
    Calls Tryd.prog 95 #[.pointer (some ⟨g, 0, none⟩), .int .u8 c] w (ScPost w S g (s, 3)) := by
  have hmf := mk_f
  have HS := Lib.hid hs
  have HM := Lib.hid hs.mem
  have HD := Lib.hid (digit_any c w)
  rw [show digitB c = false from by first | assumption | rfl] at HD
  clear hs hd
  go_enter Tryd.func95, Tryd.ntmps95
  go_wp2_with fail
  refine HD.out.mono ?_
  rintro e w2 ⟨rfl, rfl⟩
  go_wp2_with fail
  go_ret
  exact ScPost.stay HS.out 3

theorem power_any (w : World) (S : Nat → Prop) (g : Nat) (s : Sc) (c : Nat) (hs : ScAt w S g s) :
    Calls Tryd.prog 95 #[.pointer (some ⟨g, 0, none⟩), .int .u8 c] w (ScPost w S g (pPower s c)) := by
  unfold pPower
  cases hd : digitB c
  · rw [if_neg (by simp)]; exact power_no w S g s c hd hs
  · rw [if_pos rfl]; exact power_yes w S g s c hd hs

set_option maxRecDepth 100000 in
set_option maxHeartbeats 1500000 in
theorem sign_43 (w : World) (S : Nat → Prop) (g : Nat) (s : Sc) (hs : ScAt w S g s) :
    Calls Tryd.prog 86 #[.pointer (some ⟨g, 0, none⟩), .int .u8 43] w (ScPost w S g (sTo s jPower false, 0)) := by
  have hmf := mk_f
  have HS := Lib.hid hs
  have HM := Lib.hid hs.mem
  have HT := Lib.hid (to_any _ S g s jPower false HS.out)
  unfold jPower at HT
  clear hs 
  go_enter Tryd.func86, Tryd.ntmps86
  go_wp2_with fail
  refine HT.out.mono ?_
  rintro e w2 ⟨rfl, h2⟩
  have H2 := Lib.hid h2
  clear h2
  go_wp2_with fail
  go_ret
  exact ⟨rfl, H2.out⟩

set_option maxRecDepth 100000 in
set_option maxHeartbeats 1500000 in
theorem sign_45 (w : World) (S : Nat → Prop) (g : Nat) (s : Sc) (hs : ScAt w S g s) :
    Calls Tryd.prog 86 #[.pointer (some ⟨g, 0, none⟩), .int .u8 45] w (ScPost w S g (sTo s jPower false, 0)) := by
  have hmf := mk_f
  have HS := Lib.hid hs
  have HM := Lib.hid hs.mem
  have HT := Lib.hid (to_any _ S g s jPower false HS.out)
  unfold jPower at HT
  clear hs 
  go_enter Tryd.func86, Tryd.ntmps86
  go_wp2_with fail
  refine HT.out.mono ?_
  rintro e w2 ⟨rfl, h2⟩
  have H2 := Lib.hid h2
  clear h2
  go_wp2_with fail
  go_ret
  exact ⟨rfl, H2.out⟩

set_option maxRecDepth 100000 in
set_option maxHeartbeats 1500000 in
theorem sign_on (w : World) (S : Nat → Prop) (g : Nat) (s : Sc) (c : Nat) (h : c ≠ 43 ∧ c ≠ 45) (hs : ScAt w S g s) :
    Calls Tryd.prog 86 #[.pointer (some ⟨g, 0, none⟩), .int .u8 c] w (ScPost w S g (pPower s c)) := by
  have hmf := mk_f
  have q43 : ((c : Int) == 43) = false := eqF (by omega)
  have q45 : ((c : Int) == 45) = false := eqF (by omega)
  have HS := Lib.hid hs
  have HM := Lib.hid hs.mem
  have HT := Lib.hid (power_any _ S g s c HS.out)
  clear hs h
  go_enter Tryd.func86, Tryd.ntmps86
  go_wp2_with fail
  refine HT.out.mono ?_
  rintro e w2 ⟨rfl, h2⟩
  have H2 := Lib.hid h2
  clear h2
  go_wp2_with fail
  go_ret
  exact ⟨rfl, H2.out⟩

theorem sign_any (w : World) (S : Nat → Prop) (g : Nat) (s : Sc) (c : Nat) (hs : ScAt w S g s) :
    Calls Tryd.prog 86 #[.pointer (some ⟨g, 0, none⟩), .int .u8 c] w (ScPost w S g (pSign s c)) := by
  unfold pSign
  by_cases h1 : c = 43
  · rw [if_pos (.inl h1)]; subst h1; exact sign_43 w S g s hs
  by_cases h2 : c = 45
  · rw [if_pos (.inr h2)]; subst h2; exact sign_45 w S g s hs
  rw [if_neg (by omega)]
  exact sign_on w S g s c ⟨h1, h2⟩ hs

set_option maxRecDepth 100000 in
set_option maxHeartbeats 1500000 in
theorem second_yes (w : World) (S : Nat → Prop) (g : Nat) (s : Sc) (hs : ScAt w S g s) :
    Calls Tryd.prog 100 #[.pointer (some ⟨g, 0, none⟩), .int .u8 92] w (ScPost w S g (sTo s jLetter false, 0)) := by
  have hmf := mk_f
  have HS := Lib.hid hs
  have HM := Lib.hid hs.mem
  have HT := Lib.hid (to_any _ S g s jLetter false HS.out)
  unfold jLetter at HT
  clear hs 
  go_enter Tryd.func100, Tryd.ntmps100
  go_wp2_with fail
  refine HT.out.mono ?_
  rintro e w2 ⟨rfl, h2⟩
  have H2 := Lib.hid h2
  clear h2
  go_wp2_with fail
  go_ret
  exact ⟨rfl, H2.out⟩

set_option maxRecDepth 100000 in
set_option maxHeartbeats 1500000 in
theorem second_no (w : World) (S : Nat → Prop) (g : Nat) (s : Sc) (c : Nat) (h : c ≠ 92) (hs : ScAt w S g s) :
    Calls Tryd.prog 100 #[.pointer (some ⟨g, 0, none⟩), .int .u8 c] w (ScPost w S g (s, 3)) := by
  have hmf := mk_f
  have q1 : ((c : Int) != 92) = true := by rw [bne_iff_ne]; omega
  have HS := Lib.hid hs
  have HM := Lib.hid hs.mem
  clear hs h
  go_enter Tryd.func100, Tryd.ntmps100
  go_wp2_with fail
  go_ret
  exact ScPost.stay HS.out 3

theorem second_any (w : World) (S : Nat → Prop) (g : Nat) (s : Sc) (c : Nat) (hs : ScAt w S g s) :
    Calls Tryd.prog 100 #[.pointer (some ⟨g, 0, none⟩), .int .u8 c] w (ScPost w S g (pSecond s c)) := by
  unfold pSecond
  by_cases h1 : c = 92
  · rw [if_pos h1]; subst h1; exact second_yes w S g s hs
  rw [if_neg h1]
  exact second_no w S g s c h1 hs

end Go.Proofs.YtjfeebbhkolmoaaDoor
