/- crucibleref16's Scanner: sign. -/
import Derived.Test.YtjfeebbhkolmoaaDoorR16D
namespace Go.Proofs.YtjfeebbhkolmoaaDoor.R
open Go.RowKit
set_option linter.unusedVariables false

set_option maxRecDepth 100000 in
set_option maxHeartbeats 3000000 in
theorem sign_0 (w : World) (S : Nat → Prop) (g : Nat) (s : St) (c : Nat) (hm : s.o.mode = 0) (hi : InO s) (hs : StAt w S g s) :
    Calls Tryd.prog 77 #[.pointer (some ⟨g, 0, none⟩), .int .u8 c] w (NumPost w S g (pSign s c)) := by
  have d1 : w.cell? ⟨g, 1, none⟩ = some (.int .i64 0) := by
    have := hs.cell 1 (.int .i64 (s.o.mode : Nat)) (fun _ => rfl)
    rw [hm] at this
    exact this
  have f1 := hs.fz 1
  have HS := Lib.hid hs
  have HI := Lib.hid hi
  have HM := Lib.hid hm
  by_cases k93 : c = 93
  · subst k93
    have HR : Hid (pSign s 93 = (pValue s 93)) := Lib.hid (by unfold pSign; rw [hm]; simp)
    rw [HR.out]
    have HV := Lib.hid (rvalue_any w S g s 93 HI.out.1 HS.out)
    clear hs hi hm
    generalize pValue s 93 = r at *
    go_enter Tryd.func77, Tryd.ntmps77
    go_wp2_with fail
    refine HV.out.mono ?_
    rintro e w2 ⟨rfl, h2⟩
    have H2 := Lib.hid h2
    clear h2
    go_wp2_with fail
    go_ret
    exact ⟨rfl, H2.out⟩
  by_cases k125 : c = 125
  · subst k125
    have HR : Hid (pSign s 125 = (pValue s 125)) := Lib.hid (by unfold pSign; rw [hm]; simp)
    rw [HR.out]
    have HV := Lib.hid (rvalue_any w S g s 125 HI.out.1 HS.out)
    clear hs hi hm
    generalize pValue s 125 = r at *
    go_enter Tryd.func77, Tryd.ntmps77
    go_wp2_with fail
    refine HV.out.mono ?_
    rintro e w2 ⟨rfl, h2⟩
    have H2 := Lib.hid h2
    clear h2
    go_wp2_with fail
    go_ret
    exact ⟨rfl, H2.out⟩
  by_cases k58 : c = 58
  · subst k58
    have HR : Hid (pSign s 58 = (pValue s 58)) := Lib.hid (by unfold pSign; rw [hm]; simp)
    rw [HR.out]
    have HV := Lib.hid (rvalue_any w S g s 58 HI.out.1 HS.out)
    clear hs hi hm
    generalize pValue s 58 = r at *
    go_enter Tryd.func77, Tryd.ntmps77
    go_wp2_with fail
    refine HV.out.mono ?_
    rintro e w2 ⟨rfl, h2⟩
    have H2 := Lib.hid h2
    clear h2
    go_wp2_with fail
    go_ret
    exact ⟨rfl, H2.out⟩
  by_cases k44 : c = 44
  · subst k44
    have HR : Hid (pSign s 44 = (pValue s 44)) := Lib.hid (by unfold pSign; rw [hm]; simp)
    rw [HR.out]
    have HV := Lib.hid (rvalue_any w S g s 44 HI.out.1 HS.out)
    clear hs hi hm
    generalize pValue s 44 = r at *
    go_enter Tryd.func77, Tryd.ntmps77
    go_wp2_with fail
    refine HV.out.mono ?_
    rintro e w2 ⟨rfl, h2⟩
    have H2 := Lib.hid h2
    clear h2
    go_wp2_with fail
    go_ret
    exact ⟨rfl, H2.out⟩
  by_cases k34 : c = 34
  · subst k34
    have HR : Hid (pSign s 34 = (pValue s 34)) := Lib.hid (by unfold pSign; rw [hm]; simp)
    rw [HR.out]
    have HV := Lib.hid (rvalue_any w S g s 34 HI.out.1 HS.out)
    clear hs hi hm
    generalize pValue s 34 = r at *
    go_enter Tryd.func77, Tryd.ntmps77
    go_wp2_with fail
    refine HV.out.mono ?_
    rintro e w2 ⟨rfl, h2⟩
    have H2 := Lib.hid h2
    clear h2
    go_wp2_with fail
    go_ret
    exact ⟨rfl, H2.out⟩
  · have q93 : ((c : Int) == 93) = false := eqF (by omega)
    have q125 : ((c : Int) == 125) = false := eqF (by omega)
    have q58 : ((c : Int) == 58) = false := eqF (by omega)
    have q44 : ((c : Int) == 44) = false := eqF (by omega)
    have q34 : ((c : Int) == 34) = false := eqF (by omega)
    have HR : Hid (pSign s c = (pValue s c)) := Lib.hid (by unfold pSign; rw [hm]; simp [k93, k125, k58, k44, k34])
    rw [HR.out]
    clear k93 k125 k58 k44 k34 
    have HV := Lib.hid (rvalue_any w S g s c HI.out.1 HS.out)
    clear hs hi hm
    generalize pValue s c = r at *
    go_enter Tryd.func77, Tryd.ntmps77
    go_wp2_with fail
    refine HV.out.mono ?_
    rintro e w2 ⟨rfl, h2⟩
    have H2 := Lib.hid h2
    clear h2
    go_wp2_with fail
    go_ret
    exact ⟨rfl, H2.out⟩

set_option maxRecDepth 100000 in
set_option maxHeartbeats 3000000 in
theorem sign_1 (w : World) (S : Nat → Prop) (g : Nat) (s : St) (c : Nat) (hm : s.o.mode = 1) (hi : InO s) (hs : StAt w S g s) :
    Calls Tryd.prog 77 #[.pointer (some ⟨g, 0, none⟩), .int .u8 c] w (NumPost w S g (pSign s c)) := by
  have d1 : w.cell? ⟨g, 1, none⟩ = some (.int .i64 1) := by
    have := hs.cell 1 (.int .i64 (s.o.mode : Nat)) (fun _ => rfl)
    rw [hm] at this
    exact this
  have f1 := hs.fz 1
  have HS := Lib.hid hs
  have HI := Lib.hid hi
  have HM := Lib.hid hm
  by_cases k93 : c = 93
  · subst k93
    have HC := Lib.hid (closes_any w S g s 93 HI.out HS.out)
    cases hcl : (pCloses s 93).2
    case false =>
      have hsm := closes_same s 93 hcl
      have HR : Hid (pSign s 93 = (pValue s 93)) := Lib.hid (by unfold pSign; rw [hm, hcl]; simp)
      rw [HR.out]
      unfold BoolPost at HC
      rw [hcl, hsm] at HC
      clear hs hi hm hcl hsm
      go_enter Tryd.func77, Tryd.ntmps77
      go_wp2_with fail
      refine HC.out.mono ?_
      rintro e w2 ⟨rfl, S2, h2, hk2, hf2⟩
      have HS2 := Lib.hid h2
      have HK2 := Lib.hid hk2
      have HF2 := Lib.hid hf2
      have e1 : w2.cell? ⟨g, 1, none⟩ = some (.int .i64 1) := by
        have := h2.cell 1 (.int .i64 (s.o.mode : Nat)) (fun _ => rfl)
        rw [HM.out] at this
        exact this
      clear h2 hk2 hf2
      have HV := Lib.hid (rvalue_any w2 S2 g s 93 HI.out.1 HS2.out)
      generalize pValue s 93 = r at *
      go_wp2_with fail
      refine HV.out.mono ?_
      rintro e w3 ⟨rfl, h3⟩
      have H3 := Lib.hid h3
      clear h3
      go_wp2_with fail
      go_ret
      exact ⟨rfl, StLeft.trans (s1 := s) HK2.out HF2.out H3.out⟩
    case true =>
      have HR : Hid (pSign s 93 = ((pCloses s 93).1, 0)) := Lib.hid (by unfold pSign; rw [hm, hcl]; simp)
      rw [HR.out]
      unfold BoolPost at HC
      rw [hcl] at HC
      clear hs hi hm hcl
      generalize (pCloses s 93).1 = s2 at *
      go_enter Tryd.func77, Tryd.ntmps77
      go_wp2_with fail
      refine HC.out.mono ?_
      rintro e w2 ⟨rfl, h2⟩
      have H2 := Lib.hid h2
      clear h2
      go_wp2_with fail
      go_ret
      exact ⟨rfl, H2.out⟩
  by_cases k125 : c = 125
  · subst k125
    have HC := Lib.hid (closes_any w S g s 125 HI.out HS.out)
    cases hcl : (pCloses s 125).2
    case false =>
      have hsm := closes_same s 125 hcl
      have HR : Hid (pSign s 125 = (pValue s 125)) := Lib.hid (by unfold pSign; rw [hm, hcl]; simp)
      rw [HR.out]
      unfold BoolPost at HC
      rw [hcl, hsm] at HC
      clear hs hi hm hcl hsm
      go_enter Tryd.func77, Tryd.ntmps77
      go_wp2_with fail
      refine HC.out.mono ?_
      rintro e w2 ⟨rfl, S2, h2, hk2, hf2⟩
      have HS2 := Lib.hid h2
      have HK2 := Lib.hid hk2
      have HF2 := Lib.hid hf2
      have e1 : w2.cell? ⟨g, 1, none⟩ = some (.int .i64 1) := by
        have := h2.cell 1 (.int .i64 (s.o.mode : Nat)) (fun _ => rfl)
        rw [HM.out] at this
        exact this
      clear h2 hk2 hf2
      have HV := Lib.hid (rvalue_any w2 S2 g s 125 HI.out.1 HS2.out)
      generalize pValue s 125 = r at *
      go_wp2_with fail
      refine HV.out.mono ?_
      rintro e w3 ⟨rfl, h3⟩
      have H3 := Lib.hid h3
      clear h3
      go_wp2_with fail
      go_ret
      exact ⟨rfl, StLeft.trans (s1 := s) HK2.out HF2.out H3.out⟩
    case true =>
      have HR : Hid (pSign s 125 = ((pCloses s 125).1, 0)) := Lib.hid (by unfold pSign; rw [hm, hcl]; simp)
      rw [HR.out]
      unfold BoolPost at HC
      rw [hcl] at HC
      clear hs hi hm hcl
      generalize (pCloses s 125).1 = s2 at *
      go_enter Tryd.func77, Tryd.ntmps77
      go_wp2_with fail
      refine HC.out.mono ?_
      rintro e w2 ⟨rfl, h2⟩
      have H2 := Lib.hid h2
      clear h2
      go_wp2_with fail
      go_ret
      exact ⟨rfl, H2.out⟩
  by_cases k58 : c = 58
  · subst k58
    have HR : Hid (pSign s 58 = (pValue s 58)) := Lib.hid (by unfold pSign; rw [hm]; simp)
    rw [HR.out]
    have HV := Lib.hid (rvalue_any w S g s 58 HI.out.1 HS.out)
    clear hs hi hm
    generalize pValue s 58 = r at *
    go_enter Tryd.func77, Tryd.ntmps77
    go_wp2_with fail
    refine HV.out.mono ?_
    rintro e w2 ⟨rfl, h2⟩
    have H2 := Lib.hid h2
    clear h2
    go_wp2_with fail
    go_ret
    exact ⟨rfl, H2.out⟩
  by_cases k44 : c = 44
  · subst k44
    have HR : Hid (pSign s 44 = (pValue s 44)) := Lib.hid (by unfold pSign; rw [hm]; simp)
    rw [HR.out]
    have HV := Lib.hid (rvalue_any w S g s 44 HI.out.1 HS.out)
    clear hs hi hm
    generalize pValue s 44 = r at *
    go_enter Tryd.func77, Tryd.ntmps77
    go_wp2_with fail
    refine HV.out.mono ?_
    rintro e w2 ⟨rfl, h2⟩
    have H2 := Lib.hid h2
    clear h2
    go_wp2_with fail
    go_ret
    exact ⟨rfl, H2.out⟩
  by_cases k34 : c = 34
  · subst k34
    have HR : Hid (pSign s 34 = (pValue s 34)) := Lib.hid (by unfold pSign; rw [hm]; simp)
    rw [HR.out]
    have HV := Lib.hid (rvalue_any w S g s 34 HI.out.1 HS.out)
    clear hs hi hm
    generalize pValue s 34 = r at *
    go_enter Tryd.func77, Tryd.ntmps77
    go_wp2_with fail
    refine HV.out.mono ?_
    rintro e w2 ⟨rfl, h2⟩
    have H2 := Lib.hid h2
    clear h2
    go_wp2_with fail
    go_ret
    exact ⟨rfl, H2.out⟩
  · have q93 : ((c : Int) == 93) = false := eqF (by omega)
    have q125 : ((c : Int) == 125) = false := eqF (by omega)
    have q58 : ((c : Int) == 58) = false := eqF (by omega)
    have q44 : ((c : Int) == 44) = false := eqF (by omega)
    have q34 : ((c : Int) == 34) = false := eqF (by omega)
    have HR : Hid (pSign s c = (pValue s c)) := Lib.hid (by unfold pSign; rw [hm]; simp [k93, k125, k58, k44, k34])
    rw [HR.out]
    clear k93 k125 k58 k44 k34 
    have HV := Lib.hid (rvalue_any w S g s c HI.out.1 HS.out)
    clear hs hi hm
    generalize pValue s c = r at *
    go_enter Tryd.func77, Tryd.ntmps77
    go_wp2_with fail
    refine HV.out.mono ?_
    rintro e w2 ⟨rfl, h2⟩
    have H2 := Lib.hid h2
    clear h2
    go_wp2_with fail
    go_ret
    exact ⟨rfl, H2.out⟩

set_option maxRecDepth 100000 in
set_option maxHeartbeats 3000000 in
theorem sign_2 (w : World) (S : Nat → Prop) (g : Nat) (s : St) (c : Nat) (hm : s.o.mode = 2) (hi : InO s) (hs : StAt w S g s) :
    Calls Tryd.prog 77 #[.pointer (some ⟨g, 0, none⟩), .int .u8 c] w (NumPost w S g (pSign s c)) := by
  have d1 : w.cell? ⟨g, 1, none⟩ = some (.int .i64 2) := by
    have := hs.cell 1 (.int .i64 (s.o.mode : Nat)) (fun _ => rfl)
    rw [hm] at this
    exact this
  have f1 := hs.fz 1
  have HS := Lib.hid hs
  have HI := Lib.hid hi
  have HM := Lib.hid hm
  by_cases k93 : c = 93
  · subst k93
    have HC := Lib.hid (closes_any w S g s 93 HI.out HS.out)
    cases hcl : (pCloses s 93).2
    case false =>
      have hsm := closes_same s 93 hcl
      have HR : Hid (pSign s 93 = (s, 3)) := Lib.hid (by unfold pSign; rw [hm, hcl]; simp)
      rw [HR.out]
      unfold BoolPost at HC
      rw [hcl, hsm] at HC
      clear hs hi hm hcl hsm
      go_enter Tryd.func77, Tryd.ntmps77
      go_wp2_with fail
      refine HC.out.mono ?_
      rintro e w2 ⟨rfl, S2, h2, hk2, hf2⟩
      have HS2 := Lib.hid h2
      have HK2 := Lib.hid hk2
      have HF2 := Lib.hid hf2
      have e1 : w2.cell? ⟨g, 1, none⟩ = some (.int .i64 2) := by
        have := h2.cell 1 (.int .i64 (s.o.mode : Nat)) (fun _ => rfl)
        rw [HM.out] at this
        exact this
      clear h2 hk2 hf2
      go_wp2_with fail
      go_ret
      exact ⟨rfl, S2, HS2.out, HK2.out, HF2.out⟩
    case true =>
      have HR : Hid (pSign s 93 = ((pCloses s 93).1, 0)) := Lib.hid (by unfold pSign; rw [hm, hcl]; simp)
      rw [HR.out]
      unfold BoolPost at HC
      rw [hcl] at HC
      clear hs hi hm hcl
      generalize (pCloses s 93).1 = s2 at *
      go_enter Tryd.func77, Tryd.ntmps77
      go_wp2_with fail
      refine HC.out.mono ?_
      rintro e w2 ⟨rfl, h2⟩
      have H2 := Lib.hid h2
      clear h2
      go_wp2_with fail
      go_ret
      exact ⟨rfl, H2.out⟩
  by_cases k125 : c = 125
  · subst k125
    have HC := Lib.hid (closes_any w S g s 125 HI.out HS.out)
    cases hcl : (pCloses s 125).2
    case false =>
      have hsm := closes_same s 125 hcl
      have HR : Hid (pSign s 125 = (s, 3)) := Lib.hid (by unfold pSign; rw [hm, hcl]; simp)
      rw [HR.out]
      unfold BoolPost at HC
      rw [hcl, hsm] at HC
      clear hs hi hm hcl hsm
      go_enter Tryd.func77, Tryd.ntmps77
      go_wp2_with fail
      refine HC.out.mono ?_
      rintro e w2 ⟨rfl, S2, h2, hk2, hf2⟩
      have HS2 := Lib.hid h2
      have HK2 := Lib.hid hk2
      have HF2 := Lib.hid hf2
      have e1 : w2.cell? ⟨g, 1, none⟩ = some (.int .i64 2) := by
        have := h2.cell 1 (.int .i64 (s.o.mode : Nat)) (fun _ => rfl)
        rw [HM.out] at this
        exact this
      clear h2 hk2 hf2
      go_wp2_with fail
      go_ret
      exact ⟨rfl, S2, HS2.out, HK2.out, HF2.out⟩
    case true =>
      have HR : Hid (pSign s 125 = ((pCloses s 125).1, 0)) := Lib.hid (by unfold pSign; rw [hm, hcl]; simp)
      rw [HR.out]
      unfold BoolPost at HC
      rw [hcl] at HC
      clear hs hi hm hcl
      generalize (pCloses s 125).1 = s2 at *
      go_enter Tryd.func77, Tryd.ntmps77
      go_wp2_with fail
      refine HC.out.mono ?_
      rintro e w2 ⟨rfl, h2⟩
      have H2 := Lib.hid h2
      clear h2
      go_wp2_with fail
      go_ret
      exact ⟨rfl, H2.out⟩
  by_cases k58 : c = 58
  · subst k58
    have HR : Hid (pSign s 58 = (s, 3)) := Lib.hid (by unfold pSign; rw [hm]; simp)
    rw [HR.out]
    clear hs hi hm
    go_enter Tryd.func77, Tryd.ntmps77
    go_wp2_with fail
    go_ret
    exact ⟨rfl, StLeft.refl HS.out⟩
  by_cases k44 : c = 44
  · subst k44
    have HR : Hid (pSign s 44 = (s, 3)) := Lib.hid (by unfold pSign; rw [hm]; simp)
    rw [HR.out]
    clear hs hi hm
    go_enter Tryd.func77, Tryd.ntmps77
    go_wp2_with fail
    go_ret
    exact ⟨rfl, StLeft.refl HS.out⟩
  by_cases k34 : c = 34
  · subst k34
    have HR : Hid (pSign s 34 = (pLit s true, 0)) := Lib.hid (by unfold pSign; rw [hm]; simp)
    rw [HR.out]
    have HL := Lib.hid (rliteral_any w S g s true HS.out)
    clear hs hi hm
    go_enter Tryd.func77, Tryd.ntmps77
    go_wp2_with fail
    refine HL.out.mono ?_
    rintro e w2 ⟨rfl, h2⟩
    have H2 := Lib.hid h2
    clear h2
    go_wp2_with fail
    go_ret
    exact ⟨rfl, H2.out⟩
  · have q93 : ((c : Int) == 93) = false := eqF (by omega)
    have q125 : ((c : Int) == 125) = false := eqF (by omega)
    have q58 : ((c : Int) == 58) = false := eqF (by omega)
    have q44 : ((c : Int) == 44) = false := eqF (by omega)
    have q34 : ((c : Int) == 34) = false := eqF (by omega)
    have HR : Hid (pSign s c = (s, 3)) := Lib.hid (by unfold pSign; rw [hm]; simp [k93, k125, k58, k44, k34])
    rw [HR.out]
    clear k93 k125 k58 k44 k34 
    clear hs hi hm
    go_enter Tryd.func77, Tryd.ntmps77
    go_wp2_with fail
    go_ret
    exact ⟨rfl, StLeft.refl HS.out⟩

set_option maxRecDepth 100000 in
set_option maxHeartbeats 3000000 in
theorem sign_3 (w : World) (S : Nat → Prop) (g : Nat) (s : St) (c : Nat) (hm : s.o.mode = 3) (hi : InO s) (hs : StAt w S g s) :
    Calls Tryd.prog 77 #[.pointer (some ⟨g, 0, none⟩), .int .u8 c] w (NumPost w S g (pSign s c)) := by
  have d1 : w.cell? ⟨g, 1, none⟩ = some (.int .i64 3) := by
    have := hs.cell 1 (.int .i64 (s.o.mode : Nat)) (fun _ => rfl)
    rw [hm] at this
    exact this
  have f1 := hs.fz 1
  have HS := Lib.hid hs
  have HI := Lib.hid hi
  have HM := Lib.hid hm
  by_cases k93 : c = 93
  · subst k93
    have HR : Hid (pSign s 93 = (s, 3)) := Lib.hid (by unfold pSign; rw [hm]; simp)
    rw [HR.out]
    clear hs hi hm
    go_enter Tryd.func77, Tryd.ntmps77
    go_wp2_with fail
    go_ret
    exact ⟨rfl, StLeft.refl HS.out⟩
  by_cases k125 : c = 125
  · subst k125
    have HR : Hid (pSign s 125 = (s, 3)) := Lib.hid (by unfold pSign; rw [hm]; simp)
    rw [HR.out]
    clear hs hi hm
    go_enter Tryd.func77, Tryd.ntmps77
    go_wp2_with fail
    go_ret
    exact ⟨rfl, StLeft.refl HS.out⟩
  by_cases k58 : c = 58
  · subst k58
    have HR : Hid (pSign s 58 = (s, 3)) := Lib.hid (by unfold pSign; rw [hm]; simp)
    rw [HR.out]
    clear hs hi hm
    go_enter Tryd.func77, Tryd.ntmps77
    go_wp2_with fail
    go_ret
    exact ⟨rfl, StLeft.refl HS.out⟩
  by_cases k44 : c = 44
  · subst k44
    have HR : Hid (pSign s 44 = (s, 3)) := Lib.hid (by unfold pSign; rw [hm]; simp)
    rw [HR.out]
    clear hs hi hm
    go_enter Tryd.func77, Tryd.ntmps77
    go_wp2_with fail
    go_ret
    exact ⟨rfl, StLeft.refl HS.out⟩
  by_cases k34 : c = 34
  · subst k34
    have HR : Hid (pSign s 34 = (pLit s true, 0)) := Lib.hid (by unfold pSign; rw [hm]; simp)
    rw [HR.out]
    have HL := Lib.hid (rliteral_any w S g s true HS.out)
    clear hs hi hm
    go_enter Tryd.func77, Tryd.ntmps77
    go_wp2_with fail
    refine HL.out.mono ?_
    rintro e w2 ⟨rfl, h2⟩
    have H2 := Lib.hid h2
    clear h2
    go_wp2_with fail
    go_ret
    exact ⟨rfl, H2.out⟩
  · have q93 : ((c : Int) == 93) = false := eqF (by omega)
    have q125 : ((c : Int) == 125) = false := eqF (by omega)
    have q58 : ((c : Int) == 58) = false := eqF (by omega)
    have q44 : ((c : Int) == 44) = false := eqF (by omega)
    have q34 : ((c : Int) == 34) = false := eqF (by omega)
    have HR : Hid (pSign s c = (s, 3)) := Lib.hid (by unfold pSign; rw [hm]; simp [k93, k125, k58, k44, k34])
    rw [HR.out]
    clear k93 k125 k58 k44 k34 
    clear hs hi hm
    go_enter Tryd.func77, Tryd.ntmps77
    go_wp2_with fail
    go_ret
    exact ⟨rfl, StLeft.refl HS.out⟩

set_option maxRecDepth 100000 in
set_option maxHeartbeats 3000000 in
theorem sign_4 (w : World) (S : Nat → Prop) (g : Nat) (s : St) (c : Nat) (hm : s.o.mode = 4) (hi : InO s) (hs : StAt w S g s) :
    Calls Tryd.prog 77 #[.pointer (some ⟨g, 0, none⟩), .int .u8 c] w (NumPost w S g (pSign s c)) := by
  have d1 : w.cell? ⟨g, 1, none⟩ = some (.int .i64 4) := by
    have := hs.cell 1 (.int .i64 (s.o.mode : Nat)) (fun _ => rfl)
    rw [hm] at this
    exact this
  have f1 := hs.fz 1
  have HS := Lib.hid hs
  have HI := Lib.hid hi
  have HM := Lib.hid hm
  by_cases k93 : c = 93
  · subst k93
    have HR : Hid (pSign s 93 = (s, 3)) := Lib.hid (by unfold pSign; rw [hm]; simp)
    rw [HR.out]
    clear hs hi hm
    go_enter Tryd.func77, Tryd.ntmps77
    go_wp2_with fail
    go_ret
    exact ⟨rfl, StLeft.refl HS.out⟩
  by_cases k125 : c = 125
  · subst k125
    have HR : Hid (pSign s 125 = (s, 3)) := Lib.hid (by unfold pSign; rw [hm]; simp)
    rw [HR.out]
    clear hs hi hm
    go_enter Tryd.func77, Tryd.ntmps77
    go_wp2_with fail
    go_ret
    exact ⟨rfl, StLeft.refl HS.out⟩
  by_cases k58 : c = 58
  · subst k58
    have HR : Hid (pSign s 58 = (setM s 0, 0)) := Lib.hid (by unfold pSign; rw [hm]; simp)
    rw [HR.out]
    have H1 := Lib.hid (hs.put 1 (.int .i64 0) (setM s 0) (fun _ => rfl) rfl)
    clear hs hi hm
    go_enter Tryd.func77, Tryd.ntmps77
    go_wp2_with fail
    go_ret
    exact ⟨rfl, HS.out.left H1.out⟩
  by_cases k44 : c = 44
  · subst k44
    have HR : Hid (pSign s 44 = (s, 3)) := Lib.hid (by unfold pSign; rw [hm]; simp)
    rw [HR.out]
    clear hs hi hm
    go_enter Tryd.func77, Tryd.ntmps77
    go_wp2_with fail
    go_ret
    exact ⟨rfl, StLeft.refl HS.out⟩
  by_cases k34 : c = 34
  · subst k34
    have HR : Hid (pSign s 34 = (s, 3)) := Lib.hid (by unfold pSign; rw [hm]; simp)
    rw [HR.out]
    clear hs hi hm
    go_enter Tryd.func77, Tryd.ntmps77
    go_wp2_with fail
    go_ret
    exact ⟨rfl, StLeft.refl HS.out⟩
  · have q93 : ((c : Int) == 93) = false := eqF (by omega)
    have q125 : ((c : Int) == 125) = false := eqF (by omega)
    have q58 : ((c : Int) == 58) = false := eqF (by omega)
    have q44 : ((c : Int) == 44) = false := eqF (by omega)
    have q34 : ((c : Int) == 34) = false := eqF (by omega)
    have HR : Hid (pSign s c = (s, 3)) := Lib.hid (by unfold pSign; rw [hm]; simp [k93, k125, k58, k44, k34])
    rw [HR.out]
    clear k93 k125 k58 k44 k34 
    clear hs hi hm
    go_enter Tryd.func77, Tryd.ntmps77
    go_wp2_with fail
    go_ret
    exact ⟨rfl, StLeft.refl HS.out⟩

set_option maxRecDepth 100000 in
set_option maxHeartbeats 3000000 in
theorem sign_5 (w : World) (S : Nat → Prop) (g : Nat) (s : St) (c : Nat) (hm : s.o.mode = 5) (hi : InO s) (hs : StAt w S g s) (h44 : c ≠ 44) :
    Calls Tryd.prog 77 #[.pointer (some ⟨g, 0, none⟩), .int .u8 c] w (NumPost w S g (pSign s c)) := by
  have d1 : w.cell? ⟨g, 1, none⟩ = some (.int .i64 5) := by
    have := hs.cell 1 (.int .i64 (s.o.mode : Nat)) (fun _ => rfl)
    rw [hm] at this
    exact this
  have f1 := hs.fz 1
  have HS := Lib.hid hs
  have HI := Lib.hid hi
  have HM := Lib.hid hm
  by_cases k93 : c = 93
  · subst k93
    have HC := Lib.hid (closes_any w S g s 93 HI.out HS.out)
    cases hcl : (pCloses s 93).2
    case false =>
      have hsm := closes_same s 93 hcl
      have HR : Hid (pSign s 93 = (s, 3)) := Lib.hid (by unfold pSign; rw [hm, hcl]; simp)
      rw [HR.out]
      unfold BoolPost at HC
      rw [hcl, hsm] at HC
      clear hs hi hm hcl hsm
      go_enter Tryd.func77, Tryd.ntmps77
      go_wp2_with fail
      refine HC.out.mono ?_
      rintro e w2 ⟨rfl, S2, h2, hk2, hf2⟩
      have HS2 := Lib.hid h2
      have HK2 := Lib.hid hk2
      have HF2 := Lib.hid hf2
      have e1 : w2.cell? ⟨g, 1, none⟩ = some (.int .i64 5) := by
        have := h2.cell 1 (.int .i64 (s.o.mode : Nat)) (fun _ => rfl)
        rw [HM.out] at this
        exact this
      clear h2 hk2 hf2
      go_wp2_with fail
      go_ret
      exact ⟨rfl, S2, HS2.out, HK2.out, HF2.out⟩
    case true =>
      have HR : Hid (pSign s 93 = ((pCloses s 93).1, 0)) := Lib.hid (by unfold pSign; rw [hm, hcl]; simp)
      rw [HR.out]
      unfold BoolPost at HC
      rw [hcl] at HC
      clear hs hi hm hcl
      generalize (pCloses s 93).1 = s2 at *
      go_enter Tryd.func77, Tryd.ntmps77
      go_wp2_with fail
      refine HC.out.mono ?_
      rintro e w2 ⟨rfl, h2⟩
      have H2 := Lib.hid h2
      clear h2
      go_wp2_with fail
      go_ret
      exact ⟨rfl, H2.out⟩
  by_cases k125 : c = 125
  · subst k125
    have HC := Lib.hid (closes_any w S g s 125 HI.out HS.out)
    cases hcl : (pCloses s 125).2
    case false =>
      have hsm := closes_same s 125 hcl
      have HR : Hid (pSign s 125 = (s, 3)) := Lib.hid (by unfold pSign; rw [hm, hcl]; simp)
      rw [HR.out]
      unfold BoolPost at HC
      rw [hcl, hsm] at HC
      clear hs hi hm hcl hsm
      go_enter Tryd.func77, Tryd.ntmps77
      go_wp2_with fail
      refine HC.out.mono ?_
      rintro e w2 ⟨rfl, S2, h2, hk2, hf2⟩
      have HS2 := Lib.hid h2
      have HK2 := Lib.hid hk2
      have HF2 := Lib.hid hf2
      have e1 : w2.cell? ⟨g, 1, none⟩ = some (.int .i64 5) := by
        have := h2.cell 1 (.int .i64 (s.o.mode : Nat)) (fun _ => rfl)
        rw [HM.out] at this
        exact this
      clear h2 hk2 hf2
      go_wp2_with fail
      go_ret
      exact ⟨rfl, S2, HS2.out, HK2.out, HF2.out⟩
    case true =>
      have HR : Hid (pSign s 125 = ((pCloses s 125).1, 0)) := Lib.hid (by unfold pSign; rw [hm, hcl]; simp)
      rw [HR.out]
      unfold BoolPost at HC
      rw [hcl] at HC
      clear hs hi hm hcl
      generalize (pCloses s 125).1 = s2 at *
      go_enter Tryd.func77, Tryd.ntmps77
      go_wp2_with fail
      refine HC.out.mono ?_
      rintro e w2 ⟨rfl, h2⟩
      have H2 := Lib.hid h2
      clear h2
      go_wp2_with fail
      go_ret
      exact ⟨rfl, H2.out⟩
  by_cases k58 : c = 58
  · subst k58
    have HR : Hid (pSign s 58 = (s, 3)) := Lib.hid (by unfold pSign; rw [hm]; simp)
    rw [HR.out]
    clear hs hi hm
    go_enter Tryd.func77, Tryd.ntmps77
    go_wp2_with fail
    go_ret
    exact ⟨rfl, StLeft.refl HS.out⟩
  by_cases k34 : c = 34
  · subst k34
    have HR : Hid (pSign s 34 = (s, 3)) := Lib.hid (by unfold pSign; rw [hm]; simp)
    rw [HR.out]
    clear hs hi hm
    go_enter Tryd.func77, Tryd.ntmps77
    go_wp2_with fail
    go_ret
    exact ⟨rfl, StLeft.refl HS.out⟩
  · have q93 : ((c : Int) == 93) = false := eqF (by omega)
    have q125 : ((c : Int) == 125) = false := eqF (by omega)
    have q58 : ((c : Int) == 58) = false := eqF (by omega)
    have q44 : ((c : Int) == 44) = false := eqF (by omega)
    have q34 : ((c : Int) == 34) = false := eqF (by omega)
    have HR : Hid (pSign s c = (s, 3)) := Lib.hid (by unfold pSign; rw [hm]; simp [k93, k125, k58, h44, k34])
    rw [HR.out]
    clear k93 k125 k58 k34  h44
    clear hs hi hm
    go_enter Tryd.func77, Tryd.ntmps77
    go_wp2_with fail
    go_ret
    exact ⟨rfl, StLeft.refl HS.out⟩

end Go.Proofs.YtjfeebbhkolmoaaDoor.R
