/- crucibleref16's Scanner: closes. -/
import Derived.Test.YtjfeebbhkolmoaaDoorR16A
namespace Go.Proofs.YtjfeebbhkolmoaaDoor.R
open Go.RowKit
set_option linter.unusedVariables false

/-- without the last byte -/
def cutB (b : ByteArray) : ByteArray := b.extract 0 (b.size - 1)
def lastB (b : ByteArray) : Nat := if h : 0 < b.size then (b[b.size - 1]'(by omega)).toNat else 0
def BoolPost (w : World) (S : Nat → Prop) (g : Nat) (r : St × Bool) (e : Ending) (w' : World) : Prop := e = .returned (.bool r.2) ∧ StLeft w S g r.1 w'
def pCloses (s : St) (c : Nat) : St × Bool := if 0 < s.o.open_.size ∧ (lastB s.o.open_ = 91 → c = 93) ∧ (lastB s.o.open_ = 123 → c = 125) then (setM (setO s (cutB s.o.open_)) 5, true) else (s, false)
set_option maxRecDepth 100000 in
theorem closes_none (w : World) (S : Nat → Prop) (g : Nat) (s : St) (c : Nat) (hs : StAt w S g s) (h0 : s.o.open_.size = 0) :
    Calls Tryd.prog 90 #[.pointer (some ⟨g, 0, none⟩), .int .u8 c] w (BoolPost w S g (s, false)) := by
  have d2 := hs.cell 2 (.string s.o.open_) (fun _ => rfl)
  have HS := Lib.hid hs
  clear hs
  go_enter Tryd.func90, Tryd.ntmps90
  go_wp2_with fail
  go_ret
  exact ⟨rfl, StLeft.refl HS.out⟩
set_option maxRecDepth 100000 in
set_option maxHeartbeats 1500000 in
theorem closes_lp (w : World) (S : Nat → Prop) (g : Nat) (s : St) (hs : StAt w S g s) (k : Nat) (hk : s.o.open_.size = k + 1) (hk2 : k ≤ 1000) (hx : (s.o.open_[k]'(by omega)).toNat = 91) :
    Calls Tryd.prog 90 #[.pointer (some ⟨g, 0, none⟩), .int .u8 93] w (BoolPost w S g (setM (setO s (cutB s.o.open_)) 5, true)) := by
  have d2 := hs.cell 2 (.string s.o.open_) (fun _ => rfl)
  have f2 := hs.fz 2
  have d1 := hs.cell 1 (.int .i64 (s.o.mode : Nat)) (fun _ => rfl)
  have f1 := hs.fz 1
  have HS := Lib.hid hs
  have H1 := Lib.hid (hs.put 2 (.string (cutB s.o.open_)) (setO s (cutB s.o.open_)) (fun _ => rfl) rfl)
  have H2 := Lib.hid (H1.out.put 1 (.int .i64 5) (setM (setO s (cutB s.o.open_)) 5) (fun _ => rfl) rfl)
  have e1 : (s.o.open_.size : Int) = (k : Int) + 1 := by omega
  have e2 : ((k : Int) + 1 == 0) = false := by rw [beq_eq_false_iff_ne]; omega
  have e3 : (k : Int) + 1 - 1 = (k : Int) := by omega
  have e4 : 0 ≤ (k : Int) := by omega
  have e5 : k < s.o.open_.size := by omega
  have e6 : IntKind.i64.wrap (k : Int) = (k : Int) := IntWalk.i64_in _ (by omega)
  have e7 : cutB s.o.open_ = s.o.open_.extract 0 k := by unfold cutB; rw [hk]; rfl
  have e8 : (k : Int) < (k : Int) + 1 := by omega
  rw [e7] at H1 H2
  clear hs e7
  go_enter Tryd.func90, Tryd.ntmps90
  go_wp2_with fail
  go_ret
  exact ⟨rfl, S, by rw [show cutB s.o.open_ = s.o.open_.extract 0 k by unfold cutB; rw [hk]; rfl]; exact H2.out, ((Keeps.refl _ w).setCell (p := ⟨g, 2, none⟩) (.inl HS.out.mem) _).setCell (p := ⟨g, 1, none⟩) (.inl HS.out.mem) _, Fresh.refl _ _⟩
set_option maxRecDepth 100000 in
set_option maxHeartbeats 1500000 in
theorem closes_ln (w : World) (S : Nat → Prop) (g : Nat) (s : St) (c : Nat) (hs : StAt w S g s) (k : Nat) (hk : s.o.open_.size = k + 1) (hk2 : k ≤ 1000) (hx : (s.o.open_[k]'(by omega)).toNat = 91) (hc : c ≠ 93) :
    Calls Tryd.prog 90 #[.pointer (some ⟨g, 0, none⟩), .int .u8 c] w (BoolPost w S g (s, false)) := by
  have d2 := hs.cell 2 (.string s.o.open_) (fun _ => rfl)
  have f2 := hs.fz 2
  have d1 := hs.cell 1 (.int .i64 (s.o.mode : Nat)) (fun _ => rfl)
  have f1 := hs.fz 1
  have HS := Lib.hid hs
  have H1 := Lib.hid (hs.put 2 (.string (cutB s.o.open_)) (setO s (cutB s.o.open_)) (fun _ => rfl) rfl)
  have H2 := Lib.hid (H1.out.put 1 (.int .i64 5) (setM (setO s (cutB s.o.open_)) 5) (fun _ => rfl) rfl)
  have e1 : (s.o.open_.size : Int) = (k : Int) + 1 := by omega
  have e2 : ((k : Int) + 1 == 0) = false := by rw [beq_eq_false_iff_ne]; omega
  have e3 : (k : Int) + 1 - 1 = (k : Int) := by omega
  have e4 : 0 ≤ (k : Int) := by omega
  have e5 : k < s.o.open_.size := by omega
  have e6 : IntKind.i64.wrap (k : Int) = (k : Int) := IntWalk.i64_in _ (by omega)
  have e7 : cutB s.o.open_ = s.o.open_.extract 0 k := by unfold cutB; rw [hk]; rfl
  have e8 : (k : Int) < (k : Int) + 1 := by omega
  rw [e7] at H1 H2
  have q1 : ((c : Int) != 93) = true := by rw [bne_iff_ne]; omega
  clear hs e7
  go_enter Tryd.func90, Tryd.ntmps90
  go_wp2_with fail
  go_ret
  exact ⟨rfl, StLeft.refl HS.out⟩
set_option maxRecDepth 100000 in
set_option maxHeartbeats 1500000 in
theorem closes_mp (w : World) (S : Nat → Prop) (g : Nat) (s : St) (hs : StAt w S g s) (k : Nat) (hk : s.o.open_.size = k + 1) (hk2 : k ≤ 1000) (hx : (s.o.open_[k]'(by omega)).toNat = 123) :
    Calls Tryd.prog 90 #[.pointer (some ⟨g, 0, none⟩), .int .u8 125] w (BoolPost w S g (setM (setO s (cutB s.o.open_)) 5, true)) := by
  have d2 := hs.cell 2 (.string s.o.open_) (fun _ => rfl)
  have f2 := hs.fz 2
  have d1 := hs.cell 1 (.int .i64 (s.o.mode : Nat)) (fun _ => rfl)
  have f1 := hs.fz 1
  have HS := Lib.hid hs
  have H1 := Lib.hid (hs.put 2 (.string (cutB s.o.open_)) (setO s (cutB s.o.open_)) (fun _ => rfl) rfl)
  have H2 := Lib.hid (H1.out.put 1 (.int .i64 5) (setM (setO s (cutB s.o.open_)) 5) (fun _ => rfl) rfl)
  have e1 : (s.o.open_.size : Int) = (k : Int) + 1 := by omega
  have e2 : ((k : Int) + 1 == 0) = false := by rw [beq_eq_false_iff_ne]; omega
  have e3 : (k : Int) + 1 - 1 = (k : Int) := by omega
  have e4 : 0 ≤ (k : Int) := by omega
  have e5 : k < s.o.open_.size := by omega
  have e6 : IntKind.i64.wrap (k : Int) = (k : Int) := IntWalk.i64_in _ (by omega)
  have e7 : cutB s.o.open_ = s.o.open_.extract 0 k := by unfold cutB; rw [hk]; rfl
  have e8 : (k : Int) < (k : Int) + 1 := by omega
  rw [e7] at H1 H2
  clear hs e7
  go_enter Tryd.func90, Tryd.ntmps90
  go_wp2_with fail
  go_ret
  exact ⟨rfl, S, by rw [show cutB s.o.open_ = s.o.open_.extract 0 k by unfold cutB; rw [hk]; rfl]; exact H2.out, ((Keeps.refl _ w).setCell (p := ⟨g, 2, none⟩) (.inl HS.out.mem) _).setCell (p := ⟨g, 1, none⟩) (.inl HS.out.mem) _, Fresh.refl _ _⟩
set_option maxRecDepth 100000 in
set_option maxHeartbeats 1500000 in
theorem closes_mn (w : World) (S : Nat → Prop) (g : Nat) (s : St) (c : Nat) (hs : StAt w S g s) (k : Nat) (hk : s.o.open_.size = k + 1) (hk2 : k ≤ 1000) (hx : (s.o.open_[k]'(by omega)).toNat = 123) (hc : c ≠ 125) :
    Calls Tryd.prog 90 #[.pointer (some ⟨g, 0, none⟩), .int .u8 c] w (BoolPost w S g (s, false)) := by
  have d2 := hs.cell 2 (.string s.o.open_) (fun _ => rfl)
  have f2 := hs.fz 2
  have d1 := hs.cell 1 (.int .i64 (s.o.mode : Nat)) (fun _ => rfl)
  have f1 := hs.fz 1
  have HS := Lib.hid hs
  have H1 := Lib.hid (hs.put 2 (.string (cutB s.o.open_)) (setO s (cutB s.o.open_)) (fun _ => rfl) rfl)
  have H2 := Lib.hid (H1.out.put 1 (.int .i64 5) (setM (setO s (cutB s.o.open_)) 5) (fun _ => rfl) rfl)
  have e1 : (s.o.open_.size : Int) = (k : Int) + 1 := by omega
  have e2 : ((k : Int) + 1 == 0) = false := by rw [beq_eq_false_iff_ne]; omega
  have e3 : (k : Int) + 1 - 1 = (k : Int) := by omega
  have e4 : 0 ≤ (k : Int) := by omega
  have e5 : k < s.o.open_.size := by omega
  have e6 : IntKind.i64.wrap (k : Int) = (k : Int) := IntWalk.i64_in _ (by omega)
  have e7 : cutB s.o.open_ = s.o.open_.extract 0 k := by unfold cutB; rw [hk]; rfl
  have e8 : (k : Int) < (k : Int) + 1 := by omega
  rw [e7] at H1 H2
  have q1 : ((c : Int) != 125) = true := by rw [bne_iff_ne]; omega
  clear hs e7
  go_enter Tryd.func90, Tryd.ntmps90
  go_wp2_with fail
  go_ret
  exact ⟨rfl, StLeft.refl HS.out⟩
end Go.Proofs.YtjfeebbhkolmoaaDoor.R
