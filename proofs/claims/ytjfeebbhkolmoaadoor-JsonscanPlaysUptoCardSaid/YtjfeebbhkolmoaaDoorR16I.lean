/- crucibleref16's Scanner: complete, Close, Len, Depth, New. -/
import Derived.Test.YtjfeebbhkolmoaaDoorR16H
namespace Go.Proofs.YtjfeebbhkolmoaaDoor.R
open Go.RowKit
set_option linter.unusedVariables false

def complB (s : St) : Bool := decide (s.o.open_.size = 0 ∧ (s.o.mode = 5 ∨ s.o.mode = 9 ∨ s.o.mode = 10 ∨ s.o.mode = 12 ∨ s.o.mode = 15))
theorem empty_of (b : ByteArray) (h : b.size = 0) : b = ⟨#[]⟩ := by
  cases b with
  | mk d => rw [show d = #[] from Array.eq_empty_of_size_eq_zero h]
set_option maxRecDepth 100000 in
set_option maxHeartbeats 1500000 in
theorem complete_any (w : World) (S : Nat → Prop) (g : Nat) (s : St) (hs : StAt w S g s) :
    Calls Tryd.prog 55 #[.pointer (some ⟨g, 0, none⟩)] w fun e w' => e = .returned (.bool (complB s)) ∧ w' = w := by
  by_cases h0 : s.o.open_.size = 0
  · have d2 : w.cell? ⟨g, 2, none⟩ = some (.string ⟨#[]⟩) := by
      have := hs.cell 2 (.string s.o.open_) (fun _ => rfl)
      rw [empty_of _ h0] at this
      exact this
    have d1 := hs.cell 1 (.int .i64 (s.o.mode : Nat)) (fun _ => rfl)
    by_cases k5 : s.o.mode = 5
    · have HR : complB s = true := decide_eq_true ⟨h0, by omega⟩
      rw [HR]
      rw [k5] at d1
      have d1' : w.cell? ⟨g, 1, none⟩ = some (.int .i64 5) := d1
      clear hs d1 h0 HR
      go_enter Tryd.func55, Tryd.ntmps55
      go_wp2_with fail
      go_ret
      exact ⟨rfl, rfl⟩
    by_cases k9 : s.o.mode = 9
    · have HR : complB s = true := decide_eq_true ⟨h0, by omega⟩
      rw [HR]
      rw [k9] at d1
      have d1' : w.cell? ⟨g, 1, none⟩ = some (.int .i64 9) := d1
      clear hs d1 h0 HR
      go_enter Tryd.func55, Tryd.ntmps55
      go_wp2_with fail
      go_ret
      exact ⟨rfl, rfl⟩
    by_cases k10 : s.o.mode = 10
    · have HR : complB s = true := decide_eq_true ⟨h0, by omega⟩
      rw [HR]
      rw [k10] at d1
      have d1' : w.cell? ⟨g, 1, none⟩ = some (.int .i64 10) := d1
      clear hs d1 h0 HR
      go_enter Tryd.func55, Tryd.ntmps55
      go_wp2_with fail
      go_ret
      exact ⟨rfl, rfl⟩
    by_cases k12 : s.o.mode = 12
    · have HR : complB s = true := decide_eq_true ⟨h0, by omega⟩
      rw [HR]
      rw [k12] at d1
      have d1' : w.cell? ⟨g, 1, none⟩ = some (.int .i64 12) := d1
      clear hs d1 h0 HR
      go_enter Tryd.func55, Tryd.ntmps55
      go_wp2_with fail
      go_ret
      exact ⟨rfl, rfl⟩
    by_cases k15 : s.o.mode = 15
    · have HR : complB s = true := decide_eq_true ⟨h0, by omega⟩
      rw [HR]
      rw [k15] at d1
      have d1' : w.cell? ⟨g, 1, none⟩ = some (.int .i64 15) := d1
      clear hs d1 h0 HR
      go_enter Tryd.func55, Tryd.ntmps55
      go_wp2_with fail
      go_ret
      exact ⟨rfl, rfl⟩
    have HR : complB s = false := decide_eq_false (by omega)
    rw [HR]
    have q5 : (((s.o.mode : Nat) : Int) == 5) = false := eqF (by omega)
    have q9 : (((s.o.mode : Nat) : Int) == 9) = false := eqF (by omega)
    have q10 : (((s.o.mode : Nat) : Int) == 10) = false := eqF (by omega)
    have q12 : (((s.o.mode : Nat) : Int) == 12) = false := eqF (by omega)
    have q15 : (((s.o.mode : Nat) : Int) == 15) = false := eqF (by omega)
    clear hs h0 HR k5 k9 k10 k12 k15
    go_enter Tryd.func55, Tryd.ntmps55
    go_wp2_with fail
    go_ret
    exact ⟨rfl, rfl⟩
  · have hne := not_empty s.o.open_ (by omega)
    have HR : complB s = false := decide_eq_false (by omega)
    have d2 := hs.cell 2 (.string s.o.open_) (fun _ => rfl)
    rw [HR]
    clear hs h0 HR
    go_enter Tryd.func55, Tryd.ntmps55
    go_wp2_with fail
    go_ret
    exact ⟨rfl, rfl⟩

theorem StAt.alloc {w : World} {S : Nat → Prop} {g : Nat} {s : St} (h : StAt w S g s) (o : Obj) : StLeft w S g s (w.alloc o) := ⟨S, h.keeps (T := fun _ => False) ((Keeps.refl _ _).alloc _) (fun _ _ h => h), (Keeps.refl _ _).alloc _, Fresh.refl _ _⟩
def FaultPost (w : World) (S : Nat → Prop) (g : Nat) (s : St) (c : Nat) (n : Int) (e : Ending) (w' : World) : Prop := e = .returned (.agg #[.int .i64 (c : Nat), .int .i64 n, .string ⟨#[]⟩]) ∧ StLeft w S g s w'
def pClose (s : St) : Nat × Int := if s.o.bad = 0 ∧ complB s = false then (3, s.o.size) else (s.o.bad, s.o.at_)
set_option maxRecDepth 100000 in
set_option maxHeartbeats 1500000 in
theorem rclose_open (w : World) (S : Nat → Prop) (g : Nat) (s : St) (hs : StAt w S g s) (h0 : s.o.bad = 0) (hc : complB s = false) :
    Calls Tryd.prog 31 #[.pointer (some ⟨g, 0, none⟩)] w (FaultPost w S g s 3 s.o.size) := by
  have hlt : g < w.heap.size := hs.lt g hs.mem
  have HA : Hid (StAt (w.alloc (.cells #[.int .i64 0, .int .i64 0, .string ⟨#[]⟩] 39)) S g s) := Lib.hid (hs.keeps (T := fun _ => False) ((Keeps.refl _ _).alloc _) (fun _ _ h => h))
  have HC := Lib.hid (complete_any _ S g s HA.out)
  have d0 := hs.cell 0 (.bool true) (fun _ => rfl)
  have d12 := hs.cell 12 (.int .i64 s.o.size) (fun _ => rfl)
  have d13 := hs.cell 13 (.int .i64 (s.o.bad : Nat)) (fun _ => rfl)
  have d14 := hs.cell 14 (.int .i64 s.o.at_) (fun _ => rfl)
  have d15 := hs.cell 15 (.string ⟨#[]⟩) (fun _ => rfl)
  have HS := Lib.hid hs
  rw [h0] at d13
  rw [hc] at HC
  clear h0 hc
  clear hs
  go_enter Tryd.func31, Tryd.ntmps31
  go_wp2_with fail
  refine HC.out.mono ?_
  rintro e w2 ⟨rfl, rfl⟩
  go_wp2_with fail
  exact bodyPost_ret (v := .agg #[.int .i64 3, .int .i64 s.o.size, .string ⟨#[]⟩]) (by simp [results, Tryd.results31, go_sem]) rfl ⟨rfl, HS.out.alloc _⟩
set_option maxRecDepth 100000 in
set_option maxHeartbeats 1500000 in
theorem rclose_done (w : World) (S : Nat → Prop) (g : Nat) (s : St) (hs : StAt w S g s) (h0 : s.o.bad = 0) (hc : complB s = true) :
    Calls Tryd.prog 31 #[.pointer (some ⟨g, 0, none⟩)] w (FaultPost w S g s s.o.bad s.o.at_) := by
  have hlt : g < w.heap.size := hs.lt g hs.mem
  have HA : Hid (StAt (w.alloc (.cells #[.int .i64 0, .int .i64 0, .string ⟨#[]⟩] 39)) S g s) := Lib.hid (hs.keeps (T := fun _ => False) ((Keeps.refl _ _).alloc _) (fun _ _ h => h))
  have HC := Lib.hid (complete_any _ S g s HA.out)
  have d0 := hs.cell 0 (.bool true) (fun _ => rfl)
  have d12 := hs.cell 12 (.int .i64 s.o.size) (fun _ => rfl)
  have d13 := hs.cell 13 (.int .i64 (s.o.bad : Nat)) (fun _ => rfl)
  have d14 := hs.cell 14 (.int .i64 s.o.at_) (fun _ => rfl)
  have d15 := hs.cell 15 (.string ⟨#[]⟩) (fun _ => rfl)
  have HS := Lib.hid hs
  have d13' : w.cell? ⟨g, 13, none⟩ = some (.int .i64 0) := by rw [h0] at d13; exact d13
  rw [hc] at HC
  rw [h0]
  clear h0 hc d13
  clear hs
  go_enter Tryd.func31, Tryd.ntmps31
  go_wp2_with fail
  refine HC.out.mono ?_
  rintro e w2 ⟨rfl, rfl⟩
  go_wp2_with fail
  exact bodyPost_ret (v := .agg #[.int .i64 0, .int .i64 s.o.at_, .string ⟨#[]⟩]) (by simp [results, Tryd.results31, go_sem]) rfl ⟨rfl, HS.out.alloc _⟩
set_option maxRecDepth 100000 in
set_option maxHeartbeats 1500000 in
theorem rclose_bad (w : World) (S : Nat → Prop) (g : Nat) (s : St) (hs : StAt w S g s) (h0 : s.o.bad ≠ 0) :
    Calls Tryd.prog 31 #[.pointer (some ⟨g, 0, none⟩)] w (FaultPost w S g s s.o.bad s.o.at_) := by
  have hlt : g < w.heap.size := hs.lt g hs.mem
  have HA : Hid (StAt (w.alloc (.cells #[.int .i64 0, .int .i64 0, .string ⟨#[]⟩] 39)) S g s) := Lib.hid (hs.keeps (T := fun _ => False) ((Keeps.refl _ _).alloc _) (fun _ _ h => h))
  have HC := Lib.hid (complete_any _ S g s HA.out)
  have d0 := hs.cell 0 (.bool true) (fun _ => rfl)
  have d12 := hs.cell 12 (.int .i64 s.o.size) (fun _ => rfl)
  have d13 := hs.cell 13 (.int .i64 (s.o.bad : Nat)) (fun _ => rfl)
  have d14 := hs.cell 14 (.int .i64 s.o.at_) (fun _ => rfl)
  have d15 := hs.cell 15 (.string ⟨#[]⟩) (fun _ => rfl)
  have HS := Lib.hid hs
  have q : (((s.o.bad : Nat) : Int) == 0) = false := eqF (by omega)
  clear h0
  clear hs
  go_enter Tryd.func31, Tryd.ntmps31
  go_wp2_with fail
  exact bodyPost_ret (v := .agg #[.int .i64 (s.o.bad : Nat), .int .i64 s.o.at_, .string ⟨#[]⟩]) (by simp [results, Tryd.results31, go_sem]) rfl ⟨rfl, HS.out.alloc _⟩
theorem rclose_any (w : World) (S : Nat → Prop) (g : Nat) (s : St) (hs : StAt w S g s) :
    Calls Tryd.prog 31 #[.pointer (some ⟨g, 0, none⟩)] w (FaultPost w S g s (pClose s).1 (pClose s).2) := by
  unfold pClose
  by_cases h0 : s.o.bad = 0
  · cases hc : complB s
    · rw [if_pos ⟨h0, rfl⟩]; exact rclose_open w S g s hs h0 hc
    · rw [if_neg (fun h => by cases h.2)]; exact rclose_done w S g s hs h0 hc
  · rw [if_neg (fun h => h0 h.1)]; exact rclose_bad w S g s hs h0
theorem rlen_any (w : World) (S : Nat → Prop) (g : Nat) (s : St) (hs : StAt w S g s) :
    Calls Tryd.prog 32 #[.pointer (some ⟨g, 0, none⟩)] w fun e w' => e = .returned (.int .i64 s.o.size) ∧ w' = w := by
  have d12 := hs.cell 12 (.int .i64 s.o.size) (fun _ => rfl)
  clear hs
  go_enter Tryd.func32, Tryd.ntmps32
  go_wp2_with fail
  go_ret
  exact ⟨rfl, rfl⟩
theorem rdepth_any (w : World) (S : Nat → Prop) (g : Nat) (s : St) (hs : StAt w S g s) :
    Calls Tryd.prog 33 #[.pointer (some ⟨g, 0, none⟩)] w fun e w' => e = .returned (.int .i64 (s.o.open_.size : Nat)) ∧ w' = w := by
  have d2 := hs.cell 2 (.string s.o.open_) (fun _ => rfl)
  clear hs
  go_enter Tryd.func33, Tryd.ntmps33
  go_wp2_with fail
  go_ret
  exact ⟨rfl, rfl⟩
def ref0 : St := { o := { mode := 0, open_ := ⟨#[]⟩, keys := false, rest := ⟨#[]⟩, size := 0, bad := 0, at_ := 0 }, mode := 0, left := 0, number := 0, high := 0, low := 0, most := 0, text := [] }
theorem rnew_any (w : World) : Calls Tryd.prog 12 #[] w fun e w' => e = .returned (.pointer (some ⟨w.heap.size, 0, none⟩)) ∧ StAt w' (SO w.heap.size (.slice none 0 0)) w.heap.size ref0 ∧ Below w.heap.size w w' := by
  go_enter Tryd.func12, Tryd.ntmps12
  go_wp2_with fail
  go_ret
  exact ⟨rfl, ⟨.slice none 0 0, Blk.new w _ _, ⟨rfl, .inl ⟨rfl, rfl⟩⟩, rfl⟩, (Below.refl _ _).alloc (Nat.le_refl _) _⟩
end Go.Proofs.YtjfeebbhkolmoaaDoor.R
