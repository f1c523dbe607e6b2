/- crucibleref16's Scanner: number. -/
import Derived.Test.YtjfeebbhkolmoaaDoorR16A
namespace Go.Proofs.YtjfeebbhkolmoaaDoor.R
open Go.RowKit
set_option linter.unusedVariables false

def pNumber (s : St) (c : Nat) : St × Bool × Bool :=
  if s.o.mode = 8 ∧ c = 48 then (setM s 9, true, false)
  else if s.o.mode = 8 ∧ (48 ≤ c ∧ c ≤ 57) then (setM s 10, true, false)
  else if (s.o.mode = 10 ∨ s.o.mode = 12 ∨ s.o.mode = 15) ∧ (48 ≤ c ∧ c ≤ 57) then (s, true, false)
  else if (s.o.mode = 9 ∨ s.o.mode = 10) ∧ c = 46 then (setM s 11, true, false)
  else if s.o.mode = 11 ∧ (48 ≤ c ∧ c ≤ 57) then (setM s 12, true, false)
  else if (s.o.mode = 9 ∨ s.o.mode = 10 ∨ s.o.mode = 12) ∧ (c = 101 ∨ c = 69) then (setM s 13, true, false)
  else if s.o.mode = 13 ∧ (c = 43 ∨ c = 45) then (setM s 14, true, false)
  else if (s.o.mode = 13 ∨ s.o.mode = 14) ∧ (48 ≤ c ∧ c ≤ 57) then (setM s 15, true, false)
  else (s, false, decide (s.o.mode = 9 ∨ s.o.mode = 10 ∨ s.o.mode = 12 ∨ s.o.mode = 15))
def PairPost (w : World) (S : Nat → Prop) (g : Nat) (r : St × Bool × Bool) (e : Ending) (w' : World) : Prop := e = .returned (.tuple #[.bool r.2.1, .bool r.2.2]) ∧ StLeft w S g r.1 w'

set_option maxRecDepth 100000 in
set_option maxHeartbeats 3000000 in
theorem number_8 (w : World) (S : Nat → Prop) (g : Nat) (s : St) (c : Nat) (hm : s.o.mode = 8) (hs : StAt w S g s) :
    Calls Tryd.prog 75 #[.pointer (some ⟨g, 0, none⟩), .int .u8 c] w (PairPost w S g (pNumber s c)) := by
  have d1 : w.cell? ⟨g, 1, none⟩ = some (.int .i64 8) := by
    have := hs.cell 1 (.int .i64 (s.o.mode : Nat)) (fun _ => rfl)
    rw [hm] at this
    exact this
  have f1 := hs.fz 1
  have HS := Lib.hid hs
  have HP : Hid (∀ m', StAt (w.setCell ⟨g, 1, none⟩ (.int .i64 (m' : Nat))) S g (setM s m')) := Lib.hid (fun m' => hs.put 1 (.int .i64 (m' : Nat)) (setM s m') (fun _ => rfl) rfl)
  have HE : Hid (pNumber s c = pNumber s c) := Lib.hid rfl
  clear hs
  by_cases hz : c = 48
  · subst hz
    have HR : Hid (pNumber s 48 = (setM s 9, true, false)) := Lib.hid (by unfold pNumber; rw [hm]; (repeat' split); all_goals first | rfl | (exfalso; omega))
    rw [HR.out]
    clear hm HE
    go_enter Tryd.func75, Tryd.ntmps75
    go_wp2_with fail
    go_ret2
    exact ⟨rfl, HS.out.left (HP.out 9)⟩
  by_cases hp : c = 46
  · subst hp
    have HR : Hid (pNumber s 46 = (s, false, false)) := Lib.hid (by unfold pNumber; rw [hm]; (repeat' split); all_goals first | rfl | (exfalso; omega))
    rw [HR.out]
    clear hm HE
    go_enter Tryd.func75, Tryd.ntmps75
    go_wp2_with fail
    go_ret2
    exact ⟨rfl, StLeft.refl HS.out⟩
  by_cases he : c = 101
  · subst he
    have HR : Hid (pNumber s 101 = (s, false, false)) := Lib.hid (by unfold pNumber; rw [hm]; (repeat' split); all_goals first | rfl | (exfalso; omega))
    rw [HR.out]
    clear hm HE
    go_enter Tryd.func75, Tryd.ntmps75
    go_wp2_with fail
    go_ret2
    exact ⟨rfl, StLeft.refl HS.out⟩
  by_cases hu : c = 69
  · subst hu
    have HR : Hid (pNumber s 69 = (s, false, false)) := Lib.hid (by unfold pNumber; rw [hm]; (repeat' split); all_goals first | rfl | (exfalso; omega))
    rw [HR.out]
    clear hm HE
    go_enter Tryd.func75, Tryd.ntmps75
    go_wp2_with fail
    go_ret2
    exact ⟨rfl, StLeft.refl HS.out⟩
  by_cases ha : c = 43
  · subst ha
    have HR : Hid (pNumber s 43 = (s, false, false)) := Lib.hid (by unfold pNumber; rw [hm]; (repeat' split); all_goals first | rfl | (exfalso; omega))
    rw [HR.out]
    clear hm HE
    go_enter Tryd.func75, Tryd.ntmps75
    go_wp2_with fail
    go_ret2
    exact ⟨rfl, StLeft.refl HS.out⟩
  by_cases hb : c = 45
  · subst hb
    have HR : Hid (pNumber s 45 = (s, false, false)) := Lib.hid (by unfold pNumber; rw [hm]; (repeat' split); all_goals first | rfl | (exfalso; omega))
    rw [HR.out]
    clear hm HE
    go_enter Tryd.func75, Tryd.ntmps75
    go_wp2_with fail
    go_ret2
    exact ⟨rfl, StLeft.refl HS.out⟩
  by_cases hd : 48 ≤ c ∧ c ≤ 57
  · have HR : Hid (pNumber s c = (setM s 10, true, false)) := Lib.hid (by unfold pNumber; rw [hm]; (repeat' split); all_goals first | rfl | (exfalso; omega))
    have q48 : ((c : Int) == 48) = false := eqF (by omega)
    have q46 : ((c : Int) == 46) = false := eqF (by omega)
    have q101 : ((c : Int) == 101) = false := eqF (by omega)
    have q69 : ((c : Int) == 69) = false := eqF (by omega)
    have q43 : ((c : Int) == 43) = false := eqF (by omega)
    have q45 : ((c : Int) == 45) = false := eqF (by omega)
    have r1 : 48 ≤ (c : Int) := by omega
    have r2 : (c : Int) ≤ 57 := by omega
    rw [HR.out]
    clear hm HE
    go_enter Tryd.func75, Tryd.ntmps75
    go_wp2_with fail
    go_ret2
    exact ⟨rfl, HS.out.left (HP.out 10)⟩
  by_cases hl : c < 48
  · have HR : Hid (pNumber s c = (s, false, false)) := Lib.hid (by unfold pNumber; rw [hm]; (repeat' split); all_goals first | rfl | (exfalso; omega))
    have q48 : ((c : Int) == 48) = false := eqF (by omega)
    have q46 : ((c : Int) == 46) = false := eqF (by omega)
    have q101 : ((c : Int) == 101) = false := eqF (by omega)
    have q69 : ((c : Int) == 69) = false := eqF (by omega)
    have q43 : ((c : Int) == 43) = false := eqF (by omega)
    have q45 : ((c : Int) == 45) = false := eqF (by omega)
    have r1 : (c : Int) < 48 := by omega
    rw [HR.out]
    clear hm HE
    go_enter Tryd.func75, Tryd.ntmps75
    go_wp2_with fail
    go_ret2
    exact ⟨rfl, StLeft.refl HS.out⟩
  · have HR : Hid (pNumber s c = (s, false, false)) := Lib.hid (by unfold pNumber; rw [hm]; (repeat' split); all_goals first | rfl | (exfalso; omega))
    have q48 : ((c : Int) == 48) = false := eqF (by omega)
    have q46 : ((c : Int) == 46) = false := eqF (by omega)
    have q101 : ((c : Int) == 101) = false := eqF (by omega)
    have q69 : ((c : Int) == 69) = false := eqF (by omega)
    have q43 : ((c : Int) == 43) = false := eqF (by omega)
    have q45 : ((c : Int) == 45) = false := eqF (by omega)
    have r1 : 48 ≤ (c : Int) := by omega
    have r2 : 57 < (c : Int) := by omega
    rw [HR.out]
    clear hm HE
    go_enter Tryd.func75, Tryd.ntmps75
    go_wp2_with fail
    go_ret2
    exact ⟨rfl, StLeft.refl HS.out⟩

set_option maxRecDepth 100000 in
set_option maxHeartbeats 3000000 in
theorem number_9 (w : World) (S : Nat → Prop) (g : Nat) (s : St) (c : Nat) (hm : s.o.mode = 9) (hs : StAt w S g s) :
    Calls Tryd.prog 75 #[.pointer (some ⟨g, 0, none⟩), .int .u8 c] w (PairPost w S g (pNumber s c)) := by
  have d1 : w.cell? ⟨g, 1, none⟩ = some (.int .i64 9) := by
    have := hs.cell 1 (.int .i64 (s.o.mode : Nat)) (fun _ => rfl)
    rw [hm] at this
    exact this
  have f1 := hs.fz 1
  have HS := Lib.hid hs
  have HP : Hid (∀ m', StAt (w.setCell ⟨g, 1, none⟩ (.int .i64 (m' : Nat))) S g (setM s m')) := Lib.hid (fun m' => hs.put 1 (.int .i64 (m' : Nat)) (setM s m') (fun _ => rfl) rfl)
  have HE : Hid (pNumber s c = pNumber s c) := Lib.hid rfl
  clear hs
  by_cases hz : c = 48
  · subst hz
    have HR : Hid (pNumber s 48 = (s, false, true)) := Lib.hid (by unfold pNumber; rw [hm]; (repeat' split); all_goals first | rfl | (exfalso; omega))
    rw [HR.out]
    clear hm HE
    go_enter Tryd.func75, Tryd.ntmps75
    go_wp2_with fail
    go_ret2
    exact ⟨rfl, StLeft.refl HS.out⟩
  by_cases hp : c = 46
  · subst hp
    have HR : Hid (pNumber s 46 = (setM s 11, true, false)) := Lib.hid (by unfold pNumber; rw [hm]; (repeat' split); all_goals first | rfl | (exfalso; omega))
    rw [HR.out]
    clear hm HE
    go_enter Tryd.func75, Tryd.ntmps75
    go_wp2_with fail
    go_ret2
    exact ⟨rfl, HS.out.left (HP.out 11)⟩
  by_cases he : c = 101
  · subst he
    have HR : Hid (pNumber s 101 = (setM s 13, true, false)) := Lib.hid (by unfold pNumber; rw [hm]; (repeat' split); all_goals first | rfl | (exfalso; omega))
    rw [HR.out]
    clear hm HE
    go_enter Tryd.func75, Tryd.ntmps75
    go_wp2_with fail
    go_ret2
    exact ⟨rfl, HS.out.left (HP.out 13)⟩
  by_cases hu : c = 69
  · subst hu
    have HR : Hid (pNumber s 69 = (setM s 13, true, false)) := Lib.hid (by unfold pNumber; rw [hm]; (repeat' split); all_goals first | rfl | (exfalso; omega))
    rw [HR.out]
    clear hm HE
    go_enter Tryd.func75, Tryd.ntmps75
    go_wp2_with fail
    go_ret2
    exact ⟨rfl, HS.out.left (HP.out 13)⟩
  by_cases ha : c = 43
  · subst ha
    have HR : Hid (pNumber s 43 = (s, false, true)) := Lib.hid (by unfold pNumber; rw [hm]; (repeat' split); all_goals first | rfl | (exfalso; omega))
    rw [HR.out]
    clear hm HE
    go_enter Tryd.func75, Tryd.ntmps75
    go_wp2_with fail
    go_ret2
    exact ⟨rfl, StLeft.refl HS.out⟩
  by_cases hb : c = 45
  · subst hb
    have HR : Hid (pNumber s 45 = (s, false, true)) := Lib.hid (by unfold pNumber; rw [hm]; (repeat' split); all_goals first | rfl | (exfalso; omega))
    rw [HR.out]
    clear hm HE
    go_enter Tryd.func75, Tryd.ntmps75
    go_wp2_with fail
    go_ret2
    exact ⟨rfl, StLeft.refl HS.out⟩
  by_cases hd : 48 ≤ c ∧ c ≤ 57
  · have HR : Hid (pNumber s c = (s, false, true)) := Lib.hid (by unfold pNumber; rw [hm]; (repeat' split); all_goals first | rfl | (exfalso; omega))
    have q48 : ((c : Int) == 48) = false := eqF (by omega)
    have q46 : ((c : Int) == 46) = false := eqF (by omega)
    have q101 : ((c : Int) == 101) = false := eqF (by omega)
    have q69 : ((c : Int) == 69) = false := eqF (by omega)
    have q43 : ((c : Int) == 43) = false := eqF (by omega)
    have q45 : ((c : Int) == 45) = false := eqF (by omega)
    have r1 : 48 ≤ (c : Int) := by omega
    have r2 : (c : Int) ≤ 57 := by omega
    rw [HR.out]
    clear hm HE
    go_enter Tryd.func75, Tryd.ntmps75
    go_wp2_with fail
    go_ret2
    exact ⟨rfl, StLeft.refl HS.out⟩
  by_cases hl : c < 48
  · have HR : Hid (pNumber s c = (s, false, true)) := Lib.hid (by unfold pNumber; rw [hm]; (repeat' split); all_goals first | rfl | (exfalso; omega))
    have q48 : ((c : Int) == 48) = false := eqF (by omega)
    have q46 : ((c : Int) == 46) = false := eqF (by omega)
    have q101 : ((c : Int) == 101) = false := eqF (by omega)
    have q69 : ((c : Int) == 69) = false := eqF (by omega)
    have q43 : ((c : Int) == 43) = false := eqF (by omega)
    have q45 : ((c : Int) == 45) = false := eqF (by omega)
    have r1 : (c : Int) < 48 := by omega
    rw [HR.out]
    clear hm HE
    go_enter Tryd.func75, Tryd.ntmps75
    go_wp2_with fail
    go_ret2
    exact ⟨rfl, StLeft.refl HS.out⟩
  · have HR : Hid (pNumber s c = (s, false, true)) := Lib.hid (by unfold pNumber; rw [hm]; (repeat' split); all_goals first | rfl | (exfalso; omega))
    have q48 : ((c : Int) == 48) = false := eqF (by omega)
    have q46 : ((c : Int) == 46) = false := eqF (by omega)
    have q101 : ((c : Int) == 101) = false := eqF (by omega)
    have q69 : ((c : Int) == 69) = false := eqF (by omega)
    have q43 : ((c : Int) == 43) = false := eqF (by omega)
    have q45 : ((c : Int) == 45) = false := eqF (by omega)
    have r1 : 48 ≤ (c : Int) := by omega
    have r2 : 57 < (c : Int) := by omega
    rw [HR.out]
    clear hm HE
    go_enter Tryd.func75, Tryd.ntmps75
    go_wp2_with fail
    go_ret2
    exact ⟨rfl, StLeft.refl HS.out⟩

set_option maxRecDepth 100000 in
set_option maxHeartbeats 3000000 in
theorem number_10 (w : World) (S : Nat → Prop) (g : Nat) (s : St) (c : Nat) (hm : s.o.mode = 10) (hs : StAt w S g s) :
    Calls Tryd.prog 75 #[.pointer (some ⟨g, 0, none⟩), .int .u8 c] w (PairPost w S g (pNumber s c)) := by
  have d1 : w.cell? ⟨g, 1, none⟩ = some (.int .i64 10) := by
    have := hs.cell 1 (.int .i64 (s.o.mode : Nat)) (fun _ => rfl)
    rw [hm] at this
    exact this
  have f1 := hs.fz 1
  have HS := Lib.hid hs
  have HP : Hid (∀ m', StAt (w.setCell ⟨g, 1, none⟩ (.int .i64 (m' : Nat))) S g (setM s m')) := Lib.hid (fun m' => hs.put 1 (.int .i64 (m' : Nat)) (setM s m') (fun _ => rfl) rfl)
  have HE : Hid (pNumber s c = pNumber s c) := Lib.hid rfl
  clear hs
  by_cases hz : c = 48
  · subst hz
    have HR : Hid (pNumber s 48 = (s, true, false)) := Lib.hid (by unfold pNumber; rw [hm]; (repeat' split); all_goals first | rfl | (exfalso; omega))
    rw [HR.out]
    clear hm HE
    go_enter Tryd.func75, Tryd.ntmps75
    go_wp2_with fail
    go_ret2
    exact ⟨rfl, StLeft.refl HS.out⟩
  by_cases hp : c = 46
  · subst hp
    have HR : Hid (pNumber s 46 = (setM s 11, true, false)) := Lib.hid (by unfold pNumber; rw [hm]; (repeat' split); all_goals first | rfl | (exfalso; omega))
    rw [HR.out]
    clear hm HE
    go_enter Tryd.func75, Tryd.ntmps75
    go_wp2_with fail
    go_ret2
    exact ⟨rfl, HS.out.left (HP.out 11)⟩
  by_cases he : c = 101
  · subst he
    have HR : Hid (pNumber s 101 = (setM s 13, true, false)) := Lib.hid (by unfold pNumber; rw [hm]; (repeat' split); all_goals first | rfl | (exfalso; omega))
    rw [HR.out]
    clear hm HE
    go_enter Tryd.func75, Tryd.ntmps75
    go_wp2_with fail
    go_ret2
    exact ⟨rfl, HS.out.left (HP.out 13)⟩
  by_cases hu : c = 69
  · subst hu
    have HR : Hid (pNumber s 69 = (setM s 13, true, false)) := Lib.hid (by unfold pNumber; rw [hm]; (repeat' split); all_goals first | rfl | (exfalso; omega))
    rw [HR.out]
    clear hm HE
    go_enter Tryd.func75, Tryd.ntmps75
    go_wp2_with fail
    go_ret2
    exact ⟨rfl, HS.out.left (HP.out 13)⟩
  by_cases ha : c = 43
  · subst ha
    have HR : Hid (pNumber s 43 = (s, false, true)) := Lib.hid (by unfold pNumber; rw [hm]; (repeat' split); all_goals first | rfl | (exfalso; omega))
    rw [HR.out]
    clear hm HE
    go_enter Tryd.func75, Tryd.ntmps75
    go_wp2_with fail
    go_ret2
    exact ⟨rfl, StLeft.refl HS.out⟩
  by_cases hb : c = 45
  · subst hb
    have HR : Hid (pNumber s 45 = (s, false, true)) := Lib.hid (by unfold pNumber; rw [hm]; (repeat' split); all_goals first | rfl | (exfalso; omega))
    rw [HR.out]
    clear hm HE
    go_enter Tryd.func75, Tryd.ntmps75
    go_wp2_with fail
    go_ret2
    exact ⟨rfl, StLeft.refl HS.out⟩
  by_cases hd : 48 ≤ c ∧ c ≤ 57
  · have HR : Hid (pNumber s c = (s, true, false)) := Lib.hid (by unfold pNumber; rw [hm]; (repeat' split); all_goals first | rfl | (exfalso; omega))
    have q48 : ((c : Int) == 48) = false := eqF (by omega)
    have q46 : ((c : Int) == 46) = false := eqF (by omega)
    have q101 : ((c : Int) == 101) = false := eqF (by omega)
    have q69 : ((c : Int) == 69) = false := eqF (by omega)
    have q43 : ((c : Int) == 43) = false := eqF (by omega)
    have q45 : ((c : Int) == 45) = false := eqF (by omega)
    have r1 : 48 ≤ (c : Int) := by omega
    have r2 : (c : Int) ≤ 57 := by omega
    rw [HR.out]
    clear hm HE
    go_enter Tryd.func75, Tryd.ntmps75
    go_wp2_with fail
    go_ret2
    exact ⟨rfl, StLeft.refl HS.out⟩
  by_cases hl : c < 48
  · have HR : Hid (pNumber s c = (s, false, true)) := Lib.hid (by unfold pNumber; rw [hm]; (repeat' split); all_goals first | rfl | (exfalso; omega))
    have q48 : ((c : Int) == 48) = false := eqF (by omega)
    have q46 : ((c : Int) == 46) = false := eqF (by omega)
    have q101 : ((c : Int) == 101) = false := eqF (by omega)
    have q69 : ((c : Int) == 69) = false := eqF (by omega)
    have q43 : ((c : Int) == 43) = false := eqF (by omega)
    have q45 : ((c : Int) == 45) = false := eqF (by omega)
    have r1 : (c : Int) < 48 := by omega
    rw [HR.out]
    clear hm HE
    go_enter Tryd.func75, Tryd.ntmps75
    go_wp2_with fail
    go_ret2
    exact ⟨rfl, StLeft.refl HS.out⟩
  · have HR : Hid (pNumber s c = (s, false, true)) := Lib.hid (by unfold pNumber; rw [hm]; (repeat' split); all_goals first | rfl | (exfalso; omega))
    have q48 : ((c : Int) == 48) = false := eqF (by omega)
    have q46 : ((c : Int) == 46) = false := eqF (by omega)
    have q101 : ((c : Int) == 101) = false := eqF (by omega)
    have q69 : ((c : Int) == 69) = false := eqF (by omega)
    have q43 : ((c : Int) == 43) = false := eqF (by omega)
    have q45 : ((c : Int) == 45) = false := eqF (by omega)
    have r1 : 48 ≤ (c : Int) := by omega
    have r2 : 57 < (c : Int) := by omega
    rw [HR.out]
    clear hm HE
    go_enter Tryd.func75, Tryd.ntmps75
    go_wp2_with fail
    go_ret2
    exact ⟨rfl, StLeft.refl HS.out⟩

set_option maxRecDepth 100000 in
set_option maxHeartbeats 3000000 in
theorem number_11 (w : World) (S : Nat → Prop) (g : Nat) (s : St) (c : Nat) (hm : s.o.mode = 11) (hs : StAt w S g s) :
    Calls Tryd.prog 75 #[.pointer (some ⟨g, 0, none⟩), .int .u8 c] w (PairPost w S g (pNumber s c)) := by
  have d1 : w.cell? ⟨g, 1, none⟩ = some (.int .i64 11) := by
    have := hs.cell 1 (.int .i64 (s.o.mode : Nat)) (fun _ => rfl)
    rw [hm] at this
    exact this
  have f1 := hs.fz 1
  have HS := Lib.hid hs
  have HP : Hid (∀ m', StAt (w.setCell ⟨g, 1, none⟩ (.int .i64 (m' : Nat))) S g (setM s m')) := Lib.hid (fun m' => hs.put 1 (.int .i64 (m' : Nat)) (setM s m') (fun _ => rfl) rfl)
  have HE : Hid (pNumber s c = pNumber s c) := Lib.hid rfl
  clear hs
  by_cases hz : c = 48
  · subst hz
    have HR : Hid (pNumber s 48 = (setM s 12, true, false)) := Lib.hid (by unfold pNumber; rw [hm]; (repeat' split); all_goals first | rfl | (exfalso; omega))
    rw [HR.out]
    clear hm HE
    go_enter Tryd.func75, Tryd.ntmps75
    go_wp2_with fail
    go_ret2
    exact ⟨rfl, HS.out.left (HP.out 12)⟩
  by_cases hp : c = 46
  · subst hp
    have HR : Hid (pNumber s 46 = (s, false, false)) := Lib.hid (by unfold pNumber; rw [hm]; (repeat' split); all_goals first | rfl | (exfalso; omega))
    rw [HR.out]
    clear hm HE
    go_enter Tryd.func75, Tryd.ntmps75
    go_wp2_with fail
    go_ret2
    exact ⟨rfl, StLeft.refl HS.out⟩
  by_cases he : c = 101
  · subst he
    have HR : Hid (pNumber s 101 = (s, false, false)) := Lib.hid (by unfold pNumber; rw [hm]; (repeat' split); all_goals first | rfl | (exfalso; omega))
    rw [HR.out]
    clear hm HE
    go_enter Tryd.func75, Tryd.ntmps75
    go_wp2_with fail
    go_ret2
    exact ⟨rfl, StLeft.refl HS.out⟩
  by_cases hu : c = 69
  · subst hu
    have HR : Hid (pNumber s 69 = (s, false, false)) := Lib.hid (by unfold pNumber; rw [hm]; (repeat' split); all_goals first | rfl | (exfalso; omega))
    rw [HR.out]
    clear hm HE
    go_enter Tryd.func75, Tryd.ntmps75
    go_wp2_with fail
    go_ret2
    exact ⟨rfl, StLeft.refl HS.out⟩
  by_cases ha : c = 43
  · subst ha
    have HR : Hid (pNumber s 43 = (s, false, false)) := Lib.hid (by unfold pNumber; rw [hm]; (repeat' split); all_goals first | rfl | (exfalso; omega))
    rw [HR.out]
    clear hm HE
    go_enter Tryd.func75, Tryd.ntmps75
    go_wp2_with fail
    go_ret2
    exact ⟨rfl, StLeft.refl HS.out⟩
  by_cases hb : c = 45
  · subst hb
    have HR : Hid (pNumber s 45 = (s, false, false)) := Lib.hid (by unfold pNumber; rw [hm]; (repeat' split); all_goals first | rfl | (exfalso; omega))
    rw [HR.out]
    clear hm HE
    go_enter Tryd.func75, Tryd.ntmps75
    go_wp2_with fail
    go_ret2
    exact ⟨rfl, StLeft.refl HS.out⟩
  by_cases hd : 48 ≤ c ∧ c ≤ 57
  · have HR : Hid (pNumber s c = (setM s 12, true, false)) := Lib.hid (by unfold pNumber; rw [hm]; (repeat' split); all_goals first | rfl | (exfalso; omega))
    have q48 : ((c : Int) == 48) = false := eqF (by omega)
    have q46 : ((c : Int) == 46) = false := eqF (by omega)
    have q101 : ((c : Int) == 101) = false := eqF (by omega)
    have q69 : ((c : Int) == 69) = false := eqF (by omega)
    have q43 : ((c : Int) == 43) = false := eqF (by omega)
    have q45 : ((c : Int) == 45) = false := eqF (by omega)
    have r1 : 48 ≤ (c : Int) := by omega
    have r2 : (c : Int) ≤ 57 := by omega
    rw [HR.out]
    clear hm HE
    go_enter Tryd.func75, Tryd.ntmps75
    go_wp2_with fail
    go_ret2
    exact ⟨rfl, HS.out.left (HP.out 12)⟩
  by_cases hl : c < 48
  · have HR : Hid (pNumber s c = (s, false, false)) := Lib.hid (by unfold pNumber; rw [hm]; (repeat' split); all_goals first | rfl | (exfalso; omega))
    have q48 : ((c : Int) == 48) = false := eqF (by omega)
    have q46 : ((c : Int) == 46) = false := eqF (by omega)
    have q101 : ((c : Int) == 101) = false := eqF (by omega)
    have q69 : ((c : Int) == 69) = false := eqF (by omega)
    have q43 : ((c : Int) == 43) = false := eqF (by omega)
    have q45 : ((c : Int) == 45) = false := eqF (by omega)
    have r1 : (c : Int) < 48 := by omega
    rw [HR.out]
    clear hm HE
    go_enter Tryd.func75, Tryd.ntmps75
    go_wp2_with fail
    go_ret2
    exact ⟨rfl, StLeft.refl HS.out⟩
  · have HR : Hid (pNumber s c = (s, false, false)) := Lib.hid (by unfold pNumber; rw [hm]; (repeat' split); all_goals first | rfl | (exfalso; omega))
    have q48 : ((c : Int) == 48) = false := eqF (by omega)
    have q46 : ((c : Int) == 46) = false := eqF (by omega)
    have q101 : ((c : Int) == 101) = false := eqF (by omega)
    have q69 : ((c : Int) == 69) = false := eqF (by omega)
    have q43 : ((c : Int) == 43) = false := eqF (by omega)
    have q45 : ((c : Int) == 45) = false := eqF (by omega)
    have r1 : 48 ≤ (c : Int) := by omega
    have r2 : 57 < (c : Int) := by omega
    rw [HR.out]
    clear hm HE
    go_enter Tryd.func75, Tryd.ntmps75
    go_wp2_with fail
    go_ret2
    exact ⟨rfl, StLeft.refl HS.out⟩

set_option maxRecDepth 100000 in
set_option maxHeartbeats 3000000 in
theorem number_12 (w : World) (S : Nat → Prop) (g : Nat) (s : St) (c : Nat) (hm : s.o.mode = 12) (hs : StAt w S g s) :
    Calls Tryd.prog 75 #[.pointer (some ⟨g, 0, none⟩), .int .u8 c] w (PairPost w S g (pNumber s c)) := by
  have d1 : w.cell? ⟨g, 1, none⟩ = some (.int .i64 12) := by
    have := hs.cell 1 (.int .i64 (s.o.mode : Nat)) (fun _ => rfl)
    rw [hm] at this
    exact this
  have f1 := hs.fz 1
  have HS := Lib.hid hs
  have HP : Hid (∀ m', StAt (w.setCell ⟨g, 1, none⟩ (.int .i64 (m' : Nat))) S g (setM s m')) := Lib.hid (fun m' => hs.put 1 (.int .i64 (m' : Nat)) (setM s m') (fun _ => rfl) rfl)
  have HE : Hid (pNumber s c = pNumber s c) := Lib.hid rfl
  clear hs
  by_cases hz : c = 48
  · subst hz
    have HR : Hid (pNumber s 48 = (s, true, false)) := Lib.hid (by unfold pNumber; rw [hm]; (repeat' split); all_goals first | rfl | (exfalso; omega))
    rw [HR.out]
    clear hm HE
    go_enter Tryd.func75, Tryd.ntmps75
    go_wp2_with fail
    go_ret2
    exact ⟨rfl, StLeft.refl HS.out⟩
  by_cases hp : c = 46
  · subst hp
    have HR : Hid (pNumber s 46 = (s, false, true)) := Lib.hid (by unfold pNumber; rw [hm]; (repeat' split); all_goals first | rfl | (exfalso; omega))
    rw [HR.out]
    clear hm HE
    go_enter Tryd.func75, Tryd.ntmps75
    go_wp2_with fail
    go_ret2
    exact ⟨rfl, StLeft.refl HS.out⟩
  by_cases he : c = 101
  · subst he
    have HR : Hid (pNumber s 101 = (setM s 13, true, false)) := Lib.hid (by unfold pNumber; rw [hm]; (repeat' split); all_goals first | rfl | (exfalso; omega))
    rw [HR.out]
    clear hm HE
    go_enter Tryd.func75, Tryd.ntmps75
    go_wp2_with fail
    go_ret2
    exact ⟨rfl, HS.out.left (HP.out 13)⟩
  by_cases hu : c = 69
  · subst hu
    have HR : Hid (pNumber s 69 = (setM s 13, true, false)) := Lib.hid (by unfold pNumber; rw [hm]; (repeat' split); all_goals first | rfl | (exfalso; omega))
    rw [HR.out]
    clear hm HE
    go_enter Tryd.func75, Tryd.ntmps75
    go_wp2_with fail
    go_ret2
    exact ⟨rfl, HS.out.left (HP.out 13)⟩
  by_cases ha : c = 43
  · subst ha
    have HR : Hid (pNumber s 43 = (s, false, true)) := Lib.hid (by unfold pNumber; rw [hm]; (repeat' split); all_goals first | rfl | (exfalso; omega))
    rw [HR.out]
    clear hm HE
    go_enter Tryd.func75, Tryd.ntmps75
    go_wp2_with fail
    go_ret2
    exact ⟨rfl, StLeft.refl HS.out⟩
  by_cases hb : c = 45
  · subst hb
    have HR : Hid (pNumber s 45 = (s, false, true)) := Lib.hid (by unfold pNumber; rw [hm]; (repeat' split); all_goals first | rfl | (exfalso; omega))
    rw [HR.out]
    clear hm HE
    go_enter Tryd.func75, Tryd.ntmps75
    go_wp2_with fail
    go_ret2
    exact ⟨rfl, StLeft.refl HS.out⟩
  by_cases hd : 48 ≤ c ∧ c ≤ 57
  · have HR : Hid (pNumber s c = (s, true, false)) := Lib.hid (by unfold pNumber; rw [hm]; (repeat' split); all_goals first | rfl | (exfalso; omega))
    have q48 : ((c : Int) == 48) = false := eqF (by omega)
    have q46 : ((c : Int) == 46) = false := eqF (by omega)
    have q101 : ((c : Int) == 101) = false := eqF (by omega)
    have q69 : ((c : Int) == 69) = false := eqF (by omega)
    have q43 : ((c : Int) == 43) = false := eqF (by omega)
    have q45 : ((c : Int) == 45) = false := eqF (by omega)
    have r1 : 48 ≤ (c : Int) := by omega
    have r2 : (c : Int) ≤ 57 := by omega
    rw [HR.out]
    clear hm HE
    go_enter Tryd.func75, Tryd.ntmps75
    go_wp2_with fail
    go_ret2
    exact ⟨rfl, StLeft.refl HS.out⟩
  by_cases hl : c < 48
  · have HR : Hid (pNumber s c = (s, false, true)) := Lib.hid (by unfold pNumber; rw [hm]; (repeat' split); all_goals first | rfl | (exfalso; omega))
    have q48 : ((c : Int) == 48) = false := eqF (by omega)
    have q46 : ((c : Int) == 46) = false := eqF (by omega)
    have q101 : ((c : Int) == 101) = false := eqF (by omega)
    have q69 : ((c : Int) == 69) = false := eqF (by omega)
    have q43 : ((c : Int) == 43) = false := eqF (by omega)
    have q45 : ((c : Int) == 45) = false := eqF (by omega)
    have r1 : (c : Int) < 48 := by omega
    rw [HR.out]
    clear hm HE
    go_enter Tryd.func75, Tryd.ntmps75
    go_wp2_with fail
    go_ret2
    exact ⟨rfl, StLeft.refl HS.out⟩
  · have HR : Hid (pNumber s c = (s, false, true)) := Lib.hid (by unfold pNumber; rw [hm]; (repeat' split); all_goals first | rfl | (exfalso; omega))
    have q48 : ((c : Int) == 48) = false := eqF (by omega)
    have q46 : ((c : Int) == 46) = false := eqF (by omega)
    have q101 : ((c : Int) == 101) = false := eqF (by omega)
    have q69 : ((c : Int) == 69) = false := eqF (by omega)
    have q43 : ((c : Int) == 43) = false := eqF (by omega)
    have q45 : ((c : Int) == 45) = false := eqF (by omega)
    have r1 : 48 ≤ (c : Int) := by omega
    have r2 : 57 < (c : Int) := by omega
    rw [HR.out]
    clear hm HE
    go_enter Tryd.func75, Tryd.ntmps75
    go_wp2_with fail
    go_ret2
    exact ⟨rfl, StLeft.refl HS.out⟩

set_option maxRecDepth 100000 in
set_option maxHeartbeats 3000000 in
theorem number_13 (w : World) (S : Nat → Prop) (g : Nat) (s : St) (c : Nat) (hm : s.o.mode = 13) (hs : StAt w S g s) :
    Calls Tryd.prog 75 #[.pointer (some ⟨g, 0, none⟩), .int .u8 c] w (PairPost w S g (pNumber s c)) := by
  have d1 : w.cell? ⟨g, 1, none⟩ = some (.int .i64 13) := by
    have := hs.cell 1 (.int .i64 (s.o.mode : Nat)) (fun _ => rfl)
    rw [hm] at this
    exact this
  have f1 := hs.fz 1
  have HS := Lib.hid hs
  have HP : Hid (∀ m', StAt (w.setCell ⟨g, 1, none⟩ (.int .i64 (m' : Nat))) S g (setM s m')) := Lib.hid (fun m' => hs.put 1 (.int .i64 (m' : Nat)) (setM s m') (fun _ => rfl) rfl)
  have HE : Hid (pNumber s c = pNumber s c) := Lib.hid rfl
  clear hs
  by_cases hz : c = 48
  · subst hz
    have HR : Hid (pNumber s 48 = (setM s 15, true, false)) := Lib.hid (by unfold pNumber; rw [hm]; (repeat' split); all_goals first | rfl | (exfalso; omega))
    rw [HR.out]
    clear hm HE
    go_enter Tryd.func75, Tryd.ntmps75
    go_wp2_with fail
    go_ret2
    exact ⟨rfl, HS.out.left (HP.out 15)⟩
  by_cases hp : c = 46
  · subst hp
    have HR : Hid (pNumber s 46 = (s, false, false)) := Lib.hid (by unfold pNumber; rw [hm]; (repeat' split); all_goals first | rfl | (exfalso; omega))
    rw [HR.out]
    clear hm HE
    go_enter Tryd.func75, Tryd.ntmps75
    go_wp2_with fail
    go_ret2
    exact ⟨rfl, StLeft.refl HS.out⟩
  by_cases he : c = 101
  · subst he
    have HR : Hid (pNumber s 101 = (s, false, false)) := Lib.hid (by unfold pNumber; rw [hm]; (repeat' split); all_goals first | rfl | (exfalso; omega))
    rw [HR.out]
    clear hm HE
    go_enter Tryd.func75, Tryd.ntmps75
    go_wp2_with fail
    go_ret2
    exact ⟨rfl, StLeft.refl HS.out⟩
  by_cases hu : c = 69
  · subst hu
    have HR : Hid (pNumber s 69 = (s, false, false)) := Lib.hid (by unfold pNumber; rw [hm]; (repeat' split); all_goals first | rfl | (exfalso; omega))
    rw [HR.out]
    clear hm HE
    go_enter Tryd.func75, Tryd.ntmps75
    go_wp2_with fail
    go_ret2
    exact ⟨rfl, StLeft.refl HS.out⟩
  by_cases ha : c = 43
  · subst ha
    have HR : Hid (pNumber s 43 = (setM s 14, true, false)) := Lib.hid (by unfold pNumber; rw [hm]; (repeat' split); all_goals first | rfl | (exfalso; omega))
    rw [HR.out]
    clear hm HE
    go_enter Tryd.func75, Tryd.ntmps75
    go_wp2_with fail
    go_ret2
    exact ⟨rfl, HS.out.left (HP.out 14)⟩
  by_cases hb : c = 45
  · subst hb
    have HR : Hid (pNumber s 45 = (setM s 14, true, false)) := Lib.hid (by unfold pNumber; rw [hm]; (repeat' split); all_goals first | rfl | (exfalso; omega))
    rw [HR.out]
    clear hm HE
    go_enter Tryd.func75, Tryd.ntmps75
    go_wp2_with fail
    go_ret2
    exact ⟨rfl, HS.out.left (HP.out 14)⟩
  by_cases hd : 48 ≤ c ∧ c ≤ 57
  · have HR : Hid (pNumber s c = (setM s 15, true, false)) := Lib.hid (by unfold pNumber; rw [hm]; (repeat' split); all_goals first | rfl | (exfalso; omega))
    have q48 : ((c : Int) == 48) = false := eqF (by omega)
    have q46 : ((c : Int) == 46) = false := eqF (by omega)
    have q101 : ((c : Int) == 101) = false := eqF (by omega)
    have q69 : ((c : Int) == 69) = false := eqF (by omega)
    have q43 : ((c : Int) == 43) = false := eqF (by omega)
    have q45 : ((c : Int) == 45) = false := eqF (by omega)
    have r1 : 48 ≤ (c : Int) := by omega
    have r2 : (c : Int) ≤ 57 := by omega
    rw [HR.out]
    clear hm HE
    go_enter Tryd.func75, Tryd.ntmps75
    go_wp2_with fail
    go_ret2
    exact ⟨rfl, HS.out.left (HP.out 15)⟩
  by_cases hl : c < 48
  · have HR : Hid (pNumber s c = (s, false, false)) := Lib.hid (by unfold pNumber; rw [hm]; (repeat' split); all_goals first | rfl | (exfalso; omega))
    have q48 : ((c : Int) == 48) = false := eqF (by omega)
    have q46 : ((c : Int) == 46) = false := eqF (by omega)
    have q101 : ((c : Int) == 101) = false := eqF (by omega)
    have q69 : ((c : Int) == 69) = false := eqF (by omega)
    have q43 : ((c : Int) == 43) = false := eqF (by omega)
    have q45 : ((c : Int) == 45) = false := eqF (by omega)
    have r1 : (c : Int) < 48 := by omega
    rw [HR.out]
    clear hm HE
    go_enter Tryd.func75, Tryd.ntmps75
    go_wp2_with fail
    go_ret2
    exact ⟨rfl, StLeft.refl HS.out⟩
  · have HR : Hid (pNumber s c = (s, false, false)) := Lib.hid (by unfold pNumber; rw [hm]; (repeat' split); all_goals first | rfl | (exfalso; omega))
    have q48 : ((c : Int) == 48) = false := eqF (by omega)
    have q46 : ((c : Int) == 46) = false := eqF (by omega)
    have q101 : ((c : Int) == 101) = false := eqF (by omega)
    have q69 : ((c : Int) == 69) = false := eqF (by omega)
    have q43 : ((c : Int) == 43) = false := eqF (by omega)
    have q45 : ((c : Int) == 45) = false := eqF (by omega)
    have r1 : 48 ≤ (c : Int) := by omega
    have r2 : 57 < (c : Int) := by omega
    rw [HR.out]
    clear hm HE
    go_enter Tryd.func75, Tryd.ntmps75
    go_wp2_with fail
    go_ret2
    exact ⟨rfl, StLeft.refl HS.out⟩

set_option maxRecDepth 100000 in
set_option maxHeartbeats 3000000 in
theorem number_14 (w : World) (S : Nat → Prop) (g : Nat) (s : St) (c : Nat) (hm : s.o.mode = 14) (hs : StAt w S g s) :
    Calls Tryd.prog 75 #[.pointer (some ⟨g, 0, none⟩), .int .u8 c] w (PairPost w S g (pNumber s c)) := by
  have d1 : w.cell? ⟨g, 1, none⟩ = some (.int .i64 14) := by
    have := hs.cell 1 (.int .i64 (s.o.mode : Nat)) (fun _ => rfl)
    rw [hm] at this
    exact this
  have f1 := hs.fz 1
  have HS := Lib.hid hs
  have HP : Hid (∀ m', StAt (w.setCell ⟨g, 1, none⟩ (.int .i64 (m' : Nat))) S g (setM s m')) := Lib.hid (fun m' => hs.put 1 (.int .i64 (m' : Nat)) (setM s m') (fun _ => rfl) rfl)
  have HE : Hid (pNumber s c = pNumber s c) := Lib.hid rfl
  clear hs
  by_cases hz : c = 48
  · subst hz
    have HR : Hid (pNumber s 48 = (setM s 15, true, false)) := Lib.hid (by unfold pNumber; rw [hm]; (repeat' split); all_goals first | rfl | (exfalso; omega))
    rw [HR.out]
    clear hm HE
    go_enter Tryd.func75, Tryd.ntmps75
    go_wp2_with fail
    go_ret2
    exact ⟨rfl, HS.out.left (HP.out 15)⟩
  by_cases hp : c = 46
  · subst hp
    have HR : Hid (pNumber s 46 = (s, false, false)) := Lib.hid (by unfold pNumber; rw [hm]; (repeat' split); all_goals first | rfl | (exfalso; omega))
    rw [HR.out]
    clear hm HE
    go_enter Tryd.func75, Tryd.ntmps75
    go_wp2_with fail
    go_ret2
    exact ⟨rfl, StLeft.refl HS.out⟩
  by_cases he : c = 101
  · subst he
    have HR : Hid (pNumber s 101 = (s, false, false)) := Lib.hid (by unfold pNumber; rw [hm]; (repeat' split); all_goals first | rfl | (exfalso; omega))
    rw [HR.out]
    clear hm HE
    go_enter Tryd.func75, Tryd.ntmps75
    go_wp2_with fail
    go_ret2
    exact ⟨rfl, StLeft.refl HS.out⟩
  by_cases hu : c = 69
  · subst hu
    have HR : Hid (pNumber s 69 = (s, false, false)) := Lib.hid (by unfold pNumber; rw [hm]; (repeat' split); all_goals first | rfl | (exfalso; omega))
    rw [HR.out]
    clear hm HE
    go_enter Tryd.func75, Tryd.ntmps75
    go_wp2_with fail
    go_ret2
    exact ⟨rfl, StLeft.refl HS.out⟩
  by_cases ha : c = 43
  · subst ha
    have HR : Hid (pNumber s 43 = (s, false, false)) := Lib.hid (by unfold pNumber; rw [hm]; (repeat' split); all_goals first | rfl | (exfalso; omega))
    rw [HR.out]
    clear hm HE
    go_enter Tryd.func75, Tryd.ntmps75
    go_wp2_with fail
    go_ret2
    exact ⟨rfl, StLeft.refl HS.out⟩
  by_cases hb : c = 45
  · subst hb
    have HR : Hid (pNumber s 45 = (s, false, false)) := Lib.hid (by unfold pNumber; rw [hm]; (repeat' split); all_goals first | rfl | (exfalso; omega))
    rw [HR.out]
    clear hm HE
    go_enter Tryd.func75, Tryd.ntmps75
    go_wp2_with fail
    go_ret2
    exact ⟨rfl, StLeft.refl HS.out⟩
  by_cases hd : 48 ≤ c ∧ c ≤ 57
  · have HR : Hid (pNumber s c = (setM s 15, true, false)) := Lib.hid (by unfold pNumber; rw [hm]; (repeat' split); all_goals first | rfl | (exfalso; omega))
    have q48 : ((c : Int) == 48) = false := eqF (by omega)
    have q46 : ((c : Int) == 46) = false := eqF (by omega)
    have q101 : ((c : Int) == 101) = false := eqF (by omega)
    have q69 : ((c : Int) == 69) = false := eqF (by omega)
    have q43 : ((c : Int) == 43) = false := eqF (by omega)
    have q45 : ((c : Int) == 45) = false := eqF (by omega)
    have r1 : 48 ≤ (c : Int) := by omega
    have r2 : (c : Int) ≤ 57 := by omega
    rw [HR.out]
    clear hm HE
    go_enter Tryd.func75, Tryd.ntmps75
    go_wp2_with fail
    go_ret2
    exact ⟨rfl, HS.out.left (HP.out 15)⟩
  by_cases hl : c < 48
  · have HR : Hid (pNumber s c = (s, false, false)) := Lib.hid (by unfold pNumber; rw [hm]; (repeat' split); all_goals first | rfl | (exfalso; omega))
    have q48 : ((c : Int) == 48) = false := eqF (by omega)
    have q46 : ((c : Int) == 46) = false := eqF (by omega)
    have q101 : ((c : Int) == 101) = false := eqF (by omega)
    have q69 : ((c : Int) == 69) = false := eqF (by omega)
    have q43 : ((c : Int) == 43) = false := eqF (by omega)
    have q45 : ((c : Int) == 45) = false := eqF (by omega)
    have r1 : (c : Int) < 48 := by omega
    rw [HR.out]
    clear hm HE
    go_enter Tryd.func75, Tryd.ntmps75
    go_wp2_with fail
    go_ret2
    exact ⟨rfl, StLeft.refl HS.out⟩
  · have HR : Hid (pNumber s c = (s, false, false)) := Lib.hid (by unfold pNumber; rw [hm]; (repeat' split); all_goals first | rfl | (exfalso; omega))
    have q48 : ((c : Int) == 48) = false := eqF (by omega)
    have q46 : ((c : Int) == 46) = false := eqF (by omega)
    have q101 : ((c : Int) == 101) = false := eqF (by omega)
    have q69 : ((c : Int) == 69) = false := eqF (by omega)
    have q43 : ((c : Int) == 43) = false := eqF (by omega)
    have q45 : ((c : Int) == 45) = false := eqF (by omega)
    have r1 : 48 ≤ (c : Int) := by omega
    have r2 : 57 < (c : Int) := by omega
    rw [HR.out]
    clear hm HE
    go_enter Tryd.func75, Tryd.ntmps75
    go_wp2_with fail
    go_ret2
    exact ⟨rfl, StLeft.refl HS.out⟩

set_option maxRecDepth 100000 in
set_option maxHeartbeats 3000000 in
theorem number_15 (w : World) (S : Nat → Prop) (g : Nat) (s : St) (c : Nat) (hm : s.o.mode = 15) (hs : StAt w S g s) :
    Calls Tryd.prog 75 #[.pointer (some ⟨g, 0, none⟩), .int .u8 c] w (PairPost w S g (pNumber s c)) := by
  have d1 : w.cell? ⟨g, 1, none⟩ = some (.int .i64 15) := by
    have := hs.cell 1 (.int .i64 (s.o.mode : Nat)) (fun _ => rfl)
    rw [hm] at this
    exact this
  have f1 := hs.fz 1
  have HS := Lib.hid hs
  have HP : Hid (∀ m', StAt (w.setCell ⟨g, 1, none⟩ (.int .i64 (m' : Nat))) S g (setM s m')) := Lib.hid (fun m' => hs.put 1 (.int .i64 (m' : Nat)) (setM s m') (fun _ => rfl) rfl)
  have HE : Hid (pNumber s c = pNumber s c) := Lib.hid rfl
  clear hs
  by_cases hz : c = 48
  · subst hz
    have HR : Hid (pNumber s 48 = (s, true, false)) := Lib.hid (by unfold pNumber; rw [hm]; (repeat' split); all_goals first | rfl | (exfalso; omega))
    rw [HR.out]
    clear hm HE
    go_enter Tryd.func75, Tryd.ntmps75
    go_wp2_with fail
    go_ret2
    exact ⟨rfl, StLeft.refl HS.out⟩
  by_cases hp : c = 46
  · subst hp
    have HR : Hid (pNumber s 46 = (s, false, true)) := Lib.hid (by unfold pNumber; rw [hm]; (repeat' split); all_goals first | rfl | (exfalso; omega))
    rw [HR.out]
    clear hm HE
    go_enter Tryd.func75, Tryd.ntmps75
    go_wp2_with fail
    go_ret2
    exact ⟨rfl, StLeft.refl HS.out⟩
  by_cases he : c = 101
  · subst he
    have HR : Hid (pNumber s 101 = (s, false, true)) := Lib.hid (by unfold pNumber; rw [hm]; (repeat' split); all_goals first | rfl | (exfalso; omega))
    rw [HR.out]
    clear hm HE
    go_enter Tryd.func75, Tryd.ntmps75
    go_wp2_with fail
    go_ret2
    exact ⟨rfl, StLeft.refl HS.out⟩
  by_cases hu : c = 69
  · subst hu
    have HR : Hid (pNumber s 69 = (s, false, true)) := Lib.hid (by unfold pNumber; rw [hm]; (repeat' split); all_goals first | rfl | (exfalso; omega))
    rw [HR.out]
    clear hm HE
    go_enter Tryd.func75, Tryd.ntmps75
    go_wp2_with fail
    go_ret2
    exact ⟨rfl, StLeft.refl HS.out⟩
  by_cases ha : c = 43
  · subst ha
    have HR : Hid (pNumber s 43 = (s, false, true)) := Lib.hid (by unfold pNumber; rw [hm]; (repeat' split); all_goals first | rfl | (exfalso; omega))
    rw [HR.out]
    clear hm HE
    go_enter Tryd.func75, Tryd.ntmps75
    go_wp2_with fail
    go_ret2
    exact ⟨rfl, StLeft.refl HS.out⟩
  by_cases hb : c = 45
  · subst hb
    have HR : Hid (pNumber s 45 = (s, false, true)) := Lib.hid (by unfold pNumber; rw [hm]; (repeat' split); all_goals first | rfl | (exfalso; omega))
    rw [HR.out]
    clear hm HE
    go_enter Tryd.func75, Tryd.ntmps75
    go_wp2_with fail
    go_ret2
    exact ⟨rfl, StLeft.refl HS.out⟩
  by_cases hd : 48 ≤ c ∧ c ≤ 57
  · have HR : Hid (pNumber s c = (s, true, false)) := Lib.hid (by unfold pNumber; rw [hm]; (repeat' split); all_goals first | rfl | (exfalso; omega))
    have q48 : ((c : Int) == 48) = false := eqF (by omega)
    have q46 : ((c : Int) == 46) = false := eqF (by omega)
    have q101 : ((c : Int) == 101) = false := eqF (by omega)
    have q69 : ((c : Int) == 69) = false := eqF (by omega)
    have q43 : ((c : Int) == 43) = false := eqF (by omega)
    have q45 : ((c : Int) == 45) = false := eqF (by omega)
    have r1 : 48 ≤ (c : Int) := by omega
    have r2 : (c : Int) ≤ 57 := by omega
    rw [HR.out]
    clear hm HE
    go_enter Tryd.func75, Tryd.ntmps75
    go_wp2_with fail
    go_ret2
    exact ⟨rfl, StLeft.refl HS.out⟩
  by_cases hl : c < 48
  · have HR : Hid (pNumber s c = (s, false, true)) := Lib.hid (by unfold pNumber; rw [hm]; (repeat' split); all_goals first | rfl | (exfalso; omega))
    have q48 : ((c : Int) == 48) = false := eqF (by omega)
    have q46 : ((c : Int) == 46) = false := eqF (by omega)
    have q101 : ((c : Int) == 101) = false := eqF (by omega)
    have q69 : ((c : Int) == 69) = false := eqF (by omega)
    have q43 : ((c : Int) == 43) = false := eqF (by omega)
    have q45 : ((c : Int) == 45) = false := eqF (by omega)
    have r1 : (c : Int) < 48 := by omega
    rw [HR.out]
    clear hm HE
    go_enter Tryd.func75, Tryd.ntmps75
    go_wp2_with fail
    go_ret2
    exact ⟨rfl, StLeft.refl HS.out⟩
  · have HR : Hid (pNumber s c = (s, false, true)) := Lib.hid (by unfold pNumber; rw [hm]; (repeat' split); all_goals first | rfl | (exfalso; omega))
    have q48 : ((c : Int) == 48) = false := eqF (by omega)
    have q46 : ((c : Int) == 46) = false := eqF (by omega)
    have q101 : ((c : Int) == 101) = false := eqF (by omega)
    have q69 : ((c : Int) == 69) = false := eqF (by omega)
    have q43 : ((c : Int) == 43) = false := eqF (by omega)
    have q45 : ((c : Int) == 45) = false := eqF (by omega)
    have r1 : 48 ≤ (c : Int) := by omega
    have r2 : 57 < (c : Int) := by omega
    rw [HR.out]
    clear hm HE
    go_enter Tryd.func75, Tryd.ntmps75
    go_wp2_with fail
    go_ret2
    exact ⟨rfl, StLeft.refl HS.out⟩

theorem number_any (w : World) (S : Nat → Prop) (g : Nat) (s : St) (c : Nat) (hm : 8 ≤ s.o.mode ∧ s.o.mode ≤ 15) (hs : StAt w S g s) :
    Calls Tryd.prog 75 #[.pointer (some ⟨g, 0, none⟩), .int .u8 c] w (PairPost w S g (pNumber s c)) := by
  have h : s.o.mode = 8 ∨ s.o.mode = 9 ∨ s.o.mode = 10 ∨ s.o.mode = 11 ∨ s.o.mode = 12 ∨ s.o.mode = 13 ∨ s.o.mode = 14 ∨ s.o.mode = 15 := by omega
  rcases h with h | h | h | h | h | h | h | h
  · exact number_8 w S g s c h hs
  · exact number_9 w S g s c h hs
  · exact number_10 w S g s c h hs
  · exact number_11 w S g s c h hs
  · exact number_12 w S g s c h hs
  · exact number_13 w S g s c h hs
  · exact number_14 w S g s c h hs
  · exact number_15 w S g s c h hs
end Go.Proofs.YtjfeebbhkolmoaaDoor.R
