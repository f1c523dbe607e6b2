/- crucibleref16's Scanner: step amid a literal. -/
import Derived.Test.YtjfeebbhkolmoaaDoorR16I
import Derived.Test.YtjfeebbhkolmoaaDoorJs5
import Derived.Test.YtjfeebbhkolmoaaDoorR16C
namespace Go.Proofs.YtjfeebbhkolmoaaDoor.R
open Go.RowKit
set_option linter.unusedVariables false

def rLit (s : St) (c : Nat) : St × Nat :=
  if (stepF s c).2 = true then (if (stepF s c).1.mode = 7 then (setM (stepF s c).1 (if (stepF s c).1.o.keys = true then 4 else 5), 0) else ((stepF s c).1, 0)) else ((stepF s c).1, 3)
set_option maxRecDepth 100000 in
set_option maxHeartbeats 1500000 in
theorem step_lit_no (w : World) (S : Nat → Prop) (g : Nat) (s s2 : St) (c : Nat) (hm : s.o.mode = 6) (hs : StAt w S g s) (hst : Calls Tryd.prog 74 #[.pointer (some ⟨g, 3, none⟩), .int .u8 c] w (StPost w S g s2 false)) :
    Calls Tryd.prog 54 #[.pointer (some ⟨g, 0, none⟩), .int .u8 c] w (NumPost w S g (s2, 3)) := by
  have d1 : w.cell? ⟨g, 1, none⟩ = some (.int .i64 6) := by
    have := hs.cell 1 (.int .i64 (s.o.mode : Nat)) (fun _ => rfl)
    rw [hm] at this
    exact this
  have HT := Lib.hid hst
  clear hs hm hst
  go_enter Tryd.func54, Tryd.ntmps54
  go_wp2_with fail
  refine HT.out.mono ?_
  rintro e w2 ⟨rfl, S2, h2, k2, f2⟩
  have H2 := Lib.hid h2
  have K2 := Lib.hid k2
  have F2 := Lib.hid f2
  clear h2 k2 f2
  go_wp2_with fail
  go_ret
  exact ⟨rfl, S2, H2.out, K2.out, F2.out⟩
set_option maxRecDepth 100000 in
set_option maxHeartbeats 1500000 in
theorem step_lit_mid (w : World) (S : Nat → Prop) (g : Nat) (s s2 : St) (c : Nat) (hm : s.o.mode = 6) (hs : StAt w S g s) (hst : Calls Tryd.prog 74 #[.pointer (some ⟨g, 3, none⟩), .int .u8 c] w (StPost w S g s2 true)) (h7 : s2.mode ≠ 7) :
    Calls Tryd.prog 54 #[.pointer (some ⟨g, 0, none⟩), .int .u8 c] w (NumPost w S g (s2, 0)) := by
  have d1 : w.cell? ⟨g, 1, none⟩ = some (.int .i64 6) := by
    have := hs.cell 1 (.int .i64 (s.o.mode : Nat)) (fun _ => rfl)
    rw [hm] at this
    exact this
  have HT := Lib.hid hst
  have q7 : (s2.mode == 7) = false := by rw [beq_eq_false_iff_ne]; exact h7
  clear h7
  clear hs hm hst
  go_enter Tryd.func54, Tryd.ntmps54
  go_wp2_with fail
  refine HT.out.mono ?_
  rintro e w2 ⟨rfl, S2, h2, k2, f2⟩
  have H2 := Lib.hid h2
  have K2 := Lib.hid k2
  have F2 := Lib.hid f2
  have e3 := h2.cell 3 (.int .i64 s2.mode) (fun _ => rfl)
  have e10 := h2.cell 10 (.bool s2.o.keys) (fun _ => rfl)
  have e1 := h2.cell 1 (.int .i64 (s2.o.mode : Nat)) (fun _ => rfl)
  have g1 := h2.fz 1
  clear h2 k2 f2
  go_wp2_with fail
  go_ret
  exact ⟨rfl, S2, H2.out, K2.out, F2.out⟩
set_option maxRecDepth 100000 in
set_option maxHeartbeats 1500000 in
theorem step_lit_key (w : World) (S : Nat → Prop) (g : Nat) (s s2 : St) (c : Nat) (hm : s.o.mode = 6) (hs : StAt w S g s) (hst : Calls Tryd.prog 74 #[.pointer (some ⟨g, 3, none⟩), .int .u8 c] w (StPost w S g s2 true)) (h7 : s2.mode = 7) (hk : s2.o.keys = true) :
    Calls Tryd.prog 54 #[.pointer (some ⟨g, 0, none⟩), .int .u8 c] w (NumPost w S g (setM s2 4, 0)) := by
  have d1 : w.cell? ⟨g, 1, none⟩ = some (.int .i64 6) := by
    have := hs.cell 1 (.int .i64 (s.o.mode : Nat)) (fun _ => rfl)
    rw [hm] at this
    exact this
  have HT := Lib.hid hst
  clear hs hm hst
  go_enter Tryd.func54, Tryd.ntmps54
  go_wp2_with fail
  refine HT.out.mono ?_
  rintro e w2 ⟨rfl, S2, h2, k2, f2⟩
  have H2 := Lib.hid h2
  have K2 := Lib.hid k2
  have F2 := Lib.hid f2
  have e3 := h2.cell 3 (.int .i64 s2.mode) (fun _ => rfl)
  have e10 := h2.cell 10 (.bool s2.o.keys) (fun _ => rfl)
  have e1 := h2.cell 1 (.int .i64 (s2.o.mode : Nat)) (fun _ => rfl)
  have g1 := h2.fz 1
  rw [h7] at e3
  rw [hk] at e10
  clear h2 k2 f2 h7 hk
  go_wp2_with fail
  go_ret
  exact ⟨rfl, StLeft.trans (s1 := s2) K2.out F2.out ⟨S2, ((H2.out.put 1 (.int .i64 5) (setM s2 5) (fun _ => rfl) rfl).put 1 (.int .i64 4) (setM s2 4) (fun _ => rfl) rfl), ((Keeps.refl S2 w2).setCell (p := ⟨g, 1, none⟩) (.inl H2.out.mem) _).setCell (p := ⟨g, 1, none⟩) (.inl H2.out.mem) _, Fresh.refl _ _⟩⟩
set_option maxRecDepth 100000 in
set_option maxHeartbeats 1500000 in
theorem step_lit_val (w : World) (S : Nat → Prop) (g : Nat) (s s2 : St) (c : Nat) (hm : s.o.mode = 6) (hs : StAt w S g s) (hst : Calls Tryd.prog 74 #[.pointer (some ⟨g, 3, none⟩), .int .u8 c] w (StPost w S g s2 true)) (h7 : s2.mode = 7) (hk : s2.o.keys = false) :
    Calls Tryd.prog 54 #[.pointer (some ⟨g, 0, none⟩), .int .u8 c] w (NumPost w S g (setM s2 5, 0)) := by
  have d1 : w.cell? ⟨g, 1, none⟩ = some (.int .i64 6) := by
    have := hs.cell 1 (.int .i64 (s.o.mode : Nat)) (fun _ => rfl)
    rw [hm] at this
    exact this
  have HT := Lib.hid hst
  clear hs hm hst
  go_enter Tryd.func54, Tryd.ntmps54
  go_wp2_with fail
  refine HT.out.mono ?_
  rintro e w2 ⟨rfl, S2, h2, k2, f2⟩
  have H2 := Lib.hid h2
  have K2 := Lib.hid k2
  have F2 := Lib.hid f2
  have e3 := h2.cell 3 (.int .i64 s2.mode) (fun _ => rfl)
  have e10 := h2.cell 10 (.bool s2.o.keys) (fun _ => rfl)
  have e1 := h2.cell 1 (.int .i64 (s2.o.mode : Nat)) (fun _ => rfl)
  have g1 := h2.fz 1
  rw [h7] at e3
  rw [hk] at e10
  clear h2 k2 f2 h7 hk
  go_wp2_with fail
  go_ret
  exact ⟨rfl, StLeft.trans (s1 := s2) K2.out F2.out ⟨S2, (H2.out.put 1 (.int .i64 5) (setM s2 5) (fun _ => rfl) rfl), (Keeps.refl S2 w2).setCell (p := ⟨g, 1, none⟩) (.inl H2.out.mem) _, Fresh.refl _ _⟩⟩
theorem step_lit (w : World) (S : Nat → Prop) (g : Nat) (s : St) (c : Nat) (hc : c < 256) (hm : s.o.mode = 6) (hi : InS s) (hl : s.text.length ≤ 140737488355000) (hs : StAt w S g s) :
    Calls Tryd.prog 54 #[.pointer (some ⟨g, 0, none⟩), .int .u8 c] w (NumPost w S g (rLit s c)) := by
  have hst := step_any w S g s c hc hi hs hl
  unfold rLit
  cases hok : (stepF s c).2
  · rw [hok] at hst
    exact step_lit_no w S g s _ c hm hs hst
  · rw [hok] at hst
    rw [if_pos rfl]
    by_cases h7 : (stepF s c).1.mode = 7
    · rw [if_pos h7]
      cases hk : (stepF s c).1.o.keys
      · exact step_lit_val w S g s _ c hm hs hst h7 hk
      · exact step_lit_key w S g s _ c hm hs hst h7 hk
    · rw [if_neg h7]
      exact step_lit_mid w S g s _ c hm hs hst h7
end Go.Proofs.YtjfeebbhkolmoaaDoor.R

namespace Go.Proofs.YtjfeebbhkolmoaaDoor.R
open Go.RowKit
set_option linter.unusedVariables false

def rWord (s : St) (c : Nat) : St × Nat :=
  match s.o.rest.data.toList with
  | [] => (s, 3)
  | x :: l => if c = x.toNat then (if l = [] then (setM (setW s ⟨l.toArray⟩) 5, 0) else (setW s ⟨l.toArray⟩, 0)) else (s, 3)
set_option maxRecDepth 100000 in
theorem step_word_no (w : World) (S : Nat → Prop) (g : Nat) (s : St) (c : Nat) (x : UInt8) (l : List UInt8) (hm : s.o.mode = 7) (hr : s.o.rest.data.toList = x :: l) (hne : c ≠ x.toNat) (hs : StAt w S g s) :
    Calls Tryd.prog 54 #[.pointer (some ⟨g, 0, none⟩), .int .u8 c] w (NumPost w S g (s, 3)) := by
  obtain ⟨h0, hx, -⟩ := rest_cons s.o.rest x l hr
  have d1 : w.cell? ⟨g, 1, none⟩ = some (.int .i64 7) := by
    have := hs.cell 1 (.int .i64 (s.o.mode : Nat)) (fun _ => rfl)
    rw [hm] at this
    exact this
  have d11 := hs.cell 11 (.string s.o.rest) (fun _ => rfl)
  have HS := Lib.hid hs
  clear hs hr hm
  generalize s.o.rest = R at *
  have hi0 : (0 : Int) < (R.size : Int) := by omega
  have hq : ((c : Int) != (R[0].toNat : Int)) = true := by
    rw [bne_iff_ne, hx h0]; omega
  clear hne hx
  go_enter Tryd.func54, Tryd.ntmps54
  go_wp2_with fail
  go_ret
  exact ⟨rfl, StLeft.refl HS.out⟩

set_option maxRecDepth 100000 in
set_option maxHeartbeats 1500000 in
theorem step_word_yes (w : World) (S : Nat → Prop) (g : Nat) (s : St) (x : UInt8) (l : List UInt8) (hm : s.o.mode = 7) (hr : s.o.rest.data.toList = x :: l) (hs : StAt w S g s) :
    Calls Tryd.prog 54 #[.pointer (some ⟨g, 0, none⟩), .int .u8 (x.toNat : Nat)] w (NumPost w S g (if l = [] then (setM (setW s ⟨l.toArray⟩) 5, 0) else (setW s ⟨l.toArray⟩, 0))) := by
  obtain ⟨h0, hx, hT⟩ := rest_cons s.o.rest x l hr
  have d1 : w.cell? ⟨g, 1, none⟩ = some (.int .i64 7) := by
    have := hs.cell 1 (.int .i64 (s.o.mode : Nat)) (fun _ => rfl)
    rw [hm] at this
    exact this
  have d11 := hs.cell 11 (.string s.o.rest) (fun _ => rfl)
  have f11 := hs.fz 11
  have f1 := hs.fz 1
  have HM := Lib.hid hs.mem
  have HS2 := Lib.hid (hs.put 11 (.string ⟨l.toArray⟩) (setW s ⟨l.toArray⟩) (fun _ => rfl) rfl)
  have HS3 := Lib.hid (HS2.out.put 1 (.int .i64 5) (setM (setW s ⟨l.toArray⟩) 5) (fun _ => rfl) rfl)
  clear hs hr hm
  generalize s.o.rest = R at *
  have hi0 : (0 : Int) < (R.size : Int) := by omega
  have hi1 : (1 : Int) ≤ (R.size : Int) := by omega
  have hq : (((x.toNat : Nat) : Int) != (R[0].toNat : Int)) = false := by rw [hx h0]; simp
  have hle : (⟨l.toArray⟩ : ByteArray).toList = l := by rw [Lib.toList_data]
  clear hx
  by_cases hl : l = []
  · subst hl
    rw [if_pos rfl]
    have h1 : (⟨#[]⟩ : ByteArray).toList = [] := hle
    generalize (⟨([] : List UInt8).toArray⟩ : ByteArray) = T at *
    have h2 : T.toList = [] := hle
    clear hle h1
    go_enter Tryd.func54, Tryd.ntmps54
    go_wp2_with fail
    go_ret
    exact ⟨rfl, S, HS3.out, ((Keeps.refl _ w).setCell (p := ⟨g, 11, none⟩) (.inl HM.out) _).setCell (p := ⟨g, 1, none⟩) (.inl HM.out) _, Fresh.refl _ _⟩
  · rw [if_neg hl]
    generalize (⟨l.toArray⟩ : ByteArray) = T at *
    have h1 : T.toList.isEmpty = false := by rw [hle]; simpa using hl
    clear hle hl HS3
    go_enter Tryd.func54, Tryd.ntmps54
    go_wp2_with fail
    go_ret
    exact ⟨rfl, S, HS2.out, (Keeps.refl _ w).setCell (p := ⟨g, 11, none⟩) (.inl HM.out) _, Fresh.refl _ _⟩

theorem step_word (w : World) (S : Nat → Prop) (g : Nat) (s : St) (c : Nat) (hm : s.o.mode = 7) (hr : s.o.rest.data.toList ≠ []) (hs : StAt w S g s) :
    Calls Tryd.prog 54 #[.pointer (some ⟨g, 0, none⟩), .int .u8 c] w (NumPost w S g (rWord s c)) := by
  unfold rWord
  cases hl : s.o.rest.data.toList with
  | nil => exact absurd hl hr
  | cons x l =>
    simp only []
    by_cases h : c = x.toNat
    · rw [if_pos h]; subst h; exact step_word_yes w S g s x l hm hl hs
    · rw [if_neg h]; exact step_word_no w S g s c x l hm hl h hs
end Go.Proofs.YtjfeebbhkolmoaaDoor.R

namespace Go.Proofs.YtjfeebbhkolmoaaDoor.R
open Go.RowKit
set_option linter.unusedVariables false

def rBetween (s : St) (c : Nat) : St × Nat := if blankR c = true then (s, 0) else pSign s c
set_option maxRecDepth 100000 in
set_option maxHeartbeats 1500000 in
theorem step_between (w : World) (S : Nat → Prop) (g : Nat) (s : St) (c : Nat) (hm : s.o.mode ≤ 5) (hi : InO s) (hs : StAt w S g s) :
    Calls Tryd.prog 54 #[.pointer (some ⟨g, 0, none⟩), .int .u8 c] w (NumPost w S g (rBetween s c)) := by
  have d1 := hs.cell 1 (.int .i64 (s.o.mode : Nat)) (fun _ => rfl)
  have HS := Lib.hid hs
  have HB := Lib.hid (rblank_any c w)
  have HG := Lib.hid (sign_any w S g s c hm hi hs)
  have q6 : (((s.o.mode : Nat) : Int) == 6) = false := eqF (by omega)
  have q7 : (((s.o.mode : Nat) : Int) == 7) = false := eqF (by omega)
  have q8 : ((s.o.mode : Nat) : Int) < 8 := by omega
  clear hs hi hm
  unfold rBetween
  generalize pSign s c = r at *
  generalize s.o.mode = m at *
  cases hb : blankR c
  · rw [hb] at HB
    rw [if_neg (by decide)]
    clear hb
    go_enter Tryd.func54, Tryd.ntmps54
    go_wp2_with fail
    refine HB.out.mono ?_
    rintro e w2 ⟨rfl, rfl⟩
    go_wp2_with fail
    refine HG.out.mono ?_
    rintro e w2 ⟨rfl, h2⟩
    have H2 := Lib.hid h2
    clear h2
    go_wp2_with fail
    go_ret
    exact ⟨rfl, H2.out⟩
  · rw [hb] at HB
    rw [if_pos rfl]
    clear hb
    go_enter Tryd.func54, Tryd.ntmps54
    go_wp2_with fail
    refine HB.out.mono ?_
    rintro e w2 ⟨rfl, rfl⟩
    go_wp2_with fail
    go_ret
    exact ⟨rfl, StLeft.refl HS.out⟩
end Go.Proofs.YtjfeebbhkolmoaaDoor.R

namespace Go.Proofs.YtjfeebbhkolmoaaDoor.R
open Go.RowKit
set_option linter.unusedVariables false

set_option maxRecDepth 100000 in
set_option maxHeartbeats 1500000 in
theorem step_num_yes (w : World) (S : Nat → Prop) (g : Nat) (s s2 : St) (c : Nat) (hm : 8 ≤ s.o.mode ∧ s.o.mode ≤ 15) (hs : StAt w S g s) (hn : Calls Tryd.prog 75 #[.pointer (some ⟨g, 0, none⟩), .int .u8 c] w (PairPost w S g (s2, true, false))) :
    Calls Tryd.prog 54 #[.pointer (some ⟨g, 0, none⟩), .int .u8 c] w (NumPost w S g (s2, 0)) := by
  have d1 := hs.cell 1 (.int .i64 (s.o.mode : Nat)) (fun _ => rfl)
  have HN := Lib.hid hn
  have q6 : (((s.o.mode : Nat) : Int) == 6) = false := eqF (by omega)
  have q7 : (((s.o.mode : Nat) : Int) == 7) = false := eqF (by omega)
  have q8 : 8 ≤ ((s.o.mode : Nat) : Int) := by omega
  clear hs hn hm
  generalize s.o.mode = m at *
  go_enter Tryd.func54, Tryd.ntmps54
  go_wp2_with fail
  refine HN.out.mono ?_
  rintro e w2 ⟨rfl, S2, h2, k2, f2⟩
  have H2 := Lib.hid h2
  have K2 := Lib.hid k2
  have F2 := Lib.hid f2
  clear h2 k2 f2
  go_wp2_with fail
  go_ret
  exact ⟨rfl, S2, H2.out, K2.out, F2.out⟩
set_option maxRecDepth 100000 in
set_option maxHeartbeats 1500000 in
theorem step_num_no (w : World) (S : Nat → Prop) (g : Nat) (s s2 : St) (c : Nat) (hm : 8 ≤ s.o.mode ∧ s.o.mode ≤ 15) (hs : StAt w S g s) (hn : Calls Tryd.prog 75 #[.pointer (some ⟨g, 0, none⟩), .int .u8 c] w (PairPost w S g (s2, false, false))) :
    Calls Tryd.prog 54 #[.pointer (some ⟨g, 0, none⟩), .int .u8 c] w (NumPost w S g (s2, 3)) := by
  have d1 := hs.cell 1 (.int .i64 (s.o.mode : Nat)) (fun _ => rfl)
  have HN := Lib.hid hn
  have q6 : (((s.o.mode : Nat) : Int) == 6) = false := eqF (by omega)
  have q7 : (((s.o.mode : Nat) : Int) == 7) = false := eqF (by omega)
  have q8 : 8 ≤ ((s.o.mode : Nat) : Int) := by omega
  clear hs hn hm
  generalize s.o.mode = m at *
  go_enter Tryd.func54, Tryd.ntmps54
  go_wp2_with fail
  refine HN.out.mono ?_
  rintro e w2 ⟨rfl, S2, h2, k2, f2⟩
  have H2 := Lib.hid h2
  have K2 := Lib.hid k2
  have F2 := Lib.hid f2
  clear h2 k2 f2
  go_wp2_with fail
  go_ret
  exact ⟨rfl, S2, H2.out, K2.out, F2.out⟩
set_option maxRecDepth 100000 in
set_option maxHeartbeats 1500000 in
theorem step_num_end_true (w : World) (S : Nat → Prop) (g : Nat) (s s2 : St) (c : Nat) (hm : 8 ≤ s.o.mode ∧ s.o.mode ≤ 15) (hi : InO (setM s2 5)) (hb : blankR c = true) (hs : StAt w S g s) (hn : Calls Tryd.prog 75 #[.pointer (some ⟨g, 0, none⟩), .int .u8 c] w (PairPost w S g (s2, false, true))) :
    Calls Tryd.prog 54 #[.pointer (some ⟨g, 0, none⟩), .int .u8 c] w (NumPost w S g (setM s2 5, 0)) := by
  have d1 := hs.cell 1 (.int .i64 (s.o.mode : Nat)) (fun _ => rfl)
  have HN := Lib.hid hn
  have HI := Lib.hid hi
  have HB : Hid (∀ wx, Calls Tryd.prog 76 #[.int .u8 c] wx fun e w' => e = .returned (.bool true) ∧ wx = w') := Lib.hid (fun wx => by have := rblank_any c wx; rw [hb] at this; exact this)
  have q6 : (((s.o.mode : Nat) : Int) == 6) = false := eqF (by omega)
  have q7 : (((s.o.mode : Nat) : Int) == 7) = false := eqF (by omega)
  have q8 : 8 ≤ ((s.o.mode : Nat) : Int) := by omega
  clear hs hn hm hi hb
  generalize s.o.mode = m at *
  go_enter Tryd.func54, Tryd.ntmps54
  go_wp2_with fail
  refine HN.out.mono ?_
  rintro e w2 ⟨rfl, S2, h2, k2, f2⟩
  have e1 := h2.cell 1 (.int .i64 (s2.o.mode : Nat)) (fun _ => rfl)
  have g1 := h2.fz 1
  have H3 := Lib.hid (h2.put 1 (.int .i64 5) (setM s2 5) (fun _ => rfl) rfl)
  have K3 := Lib.hid (k2.trans ((Keeps.refl S2 w2).setCell (p := ⟨g, 1, none⟩) (.inl h2.mem) (.int .i64 5)) f2)
  have F2 := Lib.hid f2
  clear h2 k2 f2
  go_wp2_with fail
  refine (HB.out _).mono ?_
  rintro e w3 ⟨rfl, rfl⟩
  go_wp2_with fail
  go_ret
  exact ⟨rfl, S2, H3.out, K3.out, F2.out⟩
set_option maxRecDepth 100000 in
set_option maxHeartbeats 1500000 in
theorem step_num_end_false (w : World) (S : Nat → Prop) (g : Nat) (s s2 : St) (c : Nat) (hm : 8 ≤ s.o.mode ∧ s.o.mode ≤ 15) (hi : InO (setM s2 5)) (hb : blankR c = false) (hs : StAt w S g s) (hn : Calls Tryd.prog 75 #[.pointer (some ⟨g, 0, none⟩), .int .u8 c] w (PairPost w S g (s2, false, true))) :
    Calls Tryd.prog 54 #[.pointer (some ⟨g, 0, none⟩), .int .u8 c] w (NumPost w S g (pSign (setM s2 5) c)) := by
  have d1 := hs.cell 1 (.int .i64 (s.o.mode : Nat)) (fun _ => rfl)
  have HN := Lib.hid hn
  have HI := Lib.hid hi
  have HB : Hid (∀ wx, Calls Tryd.prog 76 #[.int .u8 c] wx fun e w' => e = .returned (.bool false) ∧ wx = w') := Lib.hid (fun wx => by have := rblank_any c wx; rw [hb] at this; exact this)
  have q6 : (((s.o.mode : Nat) : Int) == 6) = false := eqF (by omega)
  have q7 : (((s.o.mode : Nat) : Int) == 7) = false := eqF (by omega)
  have q8 : 8 ≤ ((s.o.mode : Nat) : Int) := by omega
  clear hs hn hm hi hb
  generalize s.o.mode = m at *
  go_enter Tryd.func54, Tryd.ntmps54
  go_wp2_with fail
  refine HN.out.mono ?_
  rintro e w2 ⟨rfl, S2, h2, k2, f2⟩
  have e1 := h2.cell 1 (.int .i64 (s2.o.mode : Nat)) (fun _ => rfl)
  have g1 := h2.fz 1
  have H3 := Lib.hid (h2.put 1 (.int .i64 5) (setM s2 5) (fun _ => rfl) rfl)
  have K3 := Lib.hid (k2.trans ((Keeps.refl S2 w2).setCell (p := ⟨g, 1, none⟩) (.inl h2.mem) (.int .i64 5)) f2)
  have F2 := Lib.hid f2
  clear h2 k2 f2
  go_wp2_with fail
  refine (HB.out _).mono ?_
  rintro e w3 ⟨rfl, rfl⟩
  have HG := Lib.hid (sign_any _ S2 g (setM s2 5) c (by show 5 ≤ 5; omega) HI.out H3.out)
  generalize pSign (setM s2 5) c = r at *
  go_wp2_with fail
  refine HG.out.mono ?_
  rintro e w4 ⟨rfl, h4⟩
  have H4 := Lib.hid h4
  clear h4
  go_wp2_with fail
  go_ret
  exact ⟨rfl, StLeft.trans (s1 := setM s2 5) K3.out F2.out H4.out⟩

def rNum (s : St) (c : Nat) : St × Nat :=
  if (pNumber s c).2.2 = true then rBetween (setM (pNumber s c).1 5) c
  else if (pNumber s c).2.1 = true then ((pNumber s c).1, 0) else ((pNumber s c).1, 3)
theorem pNumber_open (s : St) (c : Nat) : (pNumber s c).1.o.open_ = s.o.open_ := by
  unfold pNumber
  repeat' split
  all_goals rfl
theorem pNumber_both (s : St) (c : Nat) (h : (pNumber s c).2.2 = true) : (pNumber s c).2.1 = false := by
  revert h
  unfold pNumber
  repeat' split
  all_goals (intro h; first | rfl | cases h)
theorem step_num (w : World) (S : Nat → Prop) (g : Nat) (s : St) (c : Nat) (hm : 8 ≤ s.o.mode ∧ s.o.mode ≤ 15) (hi : InO s) (hs : StAt w S g s) :
    Calls Tryd.prog 54 #[.pointer (some ⟨g, 0, none⟩), .int .u8 c] w (NumPost w S g (rNum s c)) := by
  have hn := number_any w S g s c hm hs
  have ho := pNumber_open s c
  have hb := pNumber_both s c
  unfold rNum
  rcases hr : pNumber s c with ⟨s2, ok, en⟩
  rw [hr] at hn ho hb
  simp only [] at ho hb ⊢
  cases en
  · rw [if_neg (by decide)]
    cases ok
    · rw [if_neg (by decide)]; exact step_num_no w S g s s2 c hm hs hn
    · rw [if_pos rfl]; exact step_num_yes w S g s s2 c hm hs hn
  · obtain rfl := hb rfl
    rw [if_pos rfl]
    have hi2 : InO (setM s2 5) := by
      unfold InO at hi ⊢
      show s2.o.open_.size ≤ 128 ∧ (0 < s2.o.open_.size → lastB s2.o.open_ = 91 ∨ lastB s2.o.open_ = 123)
      rw [ho]; exact hi
    unfold rBetween
    cases hq : blankR c
    · rw [if_neg (by decide)]; exact step_num_end_false w S g s s2 c hm hi2 hq hs hn
    · rw [if_pos rfl]; exact step_num_end_true w S g s s2 c hm hi2 hq hs hn
end Go.Proofs.YtjfeebbhkolmoaaDoor.R

namespace Go.Proofs.YtjfeebbhkolmoaaDoor.R
open Go.RowKit
set_option linter.unusedVariables false

def rstep (s : St) (c : Nat) : St × Nat :=
  if s.o.mode = 6 then rLit s c else if s.o.mode = 7 then rWord s c else if 8 ≤ s.o.mode then rNum s c else rBetween s c
/-- what a Scanner always is -/
structure InR (s : St) : Prop where
  md : s.o.mode ≤ 15
  op : InO s
  li : s.o.mode = 6 → InS s
  wd : s.o.mode = 7 → s.o.rest.data.toList ≠ []
theorem rstep_any (w : World) (S : Nat → Prop) (g : Nat) (s : St) (c : Nat) (hc : c < 256) (hi : InR s) (hl : s.text.length ≤ 140737488355000) (hs : StAt w S g s) :
    Calls Tryd.prog 54 #[.pointer (some ⟨g, 0, none⟩), .int .u8 c] w (NumPost w S g (rstep s c)) := by
  unfold rstep
  by_cases h6 : s.o.mode = 6
  · rw [if_pos h6]; exact step_lit w S g s c hc h6 (hi.li h6) hl hs
  rw [if_neg h6]
  by_cases h7 : s.o.mode = 7
  · rw [if_pos h7]; exact step_word w S g s c h7 (hi.wd h7) hs
  rw [if_neg h7]
  by_cases h8 : 8 ≤ s.o.mode
  · rw [if_pos h8]; exact step_num w S g s c ⟨h8, hi.md⟩ hi.op hs
  · rw [if_neg h8]; exact step_between w S g s c (by omega) hi.op hs
end Go.Proofs.YtjfeebbhkolmoaaDoor.R
