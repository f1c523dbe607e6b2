/- The walk of cruciblelaw16.JsonscanNone: a scanner that is not there. -/
import Derived.Test.YtjfeebbhkolmoaaDoorJsD
import Derived.Deep.RegionHeld3
namespace Go.Proofs.YtjfeebbhkolmoaaDoor
open Go.RowKit
set_option linter.unusedVariables false

/-- api.ErrNil as a value -/
def nilErr (a : Nat → Addr) : Value := .iface 142 (.pointer (some (a 1)))
/-- the program's scanner: a nil pointer, or a zero struct in block g -/
def NoT (w : World) (v : Value) : Prop := v = .pointer none ∨ ∃ g, v = .pointer (some ⟨g, 0, none⟩) ∧ Blk w g 45 #[.nilFunc, .slice none 0 0, .bool false, .int .i64 0, .int .i64 0, .string ⟨#[]⟩, .bool false, .int .i64 0, .int .u8 0, .int .u8 0, .int .i64 0, .bool false]
/-- the document's: a zero struct -/
def NoR (w : World) (g : Nat) : Prop := Blk w g 41 #[.bool false, .int .i64 0, .string ⟨#[]⟩, .int .i64 0, .int .i64 0, .int .i64 0, .int .i64 0, .int .u8 0, .int .u8 0, .slice none 0 0, .bool false, .string ⟨#[]⟩, .int .i64 0, .int .i64 0, .int .i64 0, .string ⟨#[]⟩]
theorem NoT.below {w w' : World} {v : Value} (h : NoT w v) (hb : Below w.heap.size w w') : NoT w' v := by
  rcases h with h | ⟨g, h1, h2⟩
  · exact .inl h
  · exact .inr ⟨g, h1, h2.below hb h2.lt⟩
theorem NoR.below {w w' : World} {g : Nat} (h : NoR w g) (hb : Below w.heap.size w w') : NoR w' g := Blk.below h hb (Blk.lt h)
theorem fn_nil2 (w : World) : (binOp .eql 43 .nilFunc .nilFunc).run Tryd.prog w = .ok (.bool true) w := by kernel_rfl

set_option maxRecDepth 100000 in
theorem none_write (v : Value) (chunk : ByteArray) (a : Nat → Addr) (w : World) (he : Errs w a) (h : NoT w v) :
    Calls Tryd.prog 17 #[v, .string chunk] w fun e w' => e = .returned (nilErr a) ∧ w = w' := by
  have s1 : w.cell? ⟨0, 0, none⟩ = _ := he.sen 1 (by decide)
  have hf2 := fn_nil2
  clear he
  rcases h with rfl | ⟨g, rfl, hb⟩
  · go_enter Tryd.func17, Tryd.ntmps17
    go_wp2_with fail
    go_ret
    exact ⟨rfl, rfl⟩
  · have c0 := hb.cell 0
    clear hb
    go_enter Tryd.func17, Tryd.ntmps17
    go_wp2_with fail
    go_ret
    exact ⟨rfl, rfl⟩
set_option maxRecDepth 100000 in
theorem none_close (v : Value) (a : Nat → Addr) (w : World) (he : Errs w a) (h : NoT w v) :
    Calls Tryd.prog 20 #[v] w fun e w' => e = .returned (nilErr a) ∧ w = w' := by
  have s1 : w.cell? ⟨0, 0, none⟩ = _ := he.sen 1 (by decide)
  have hf2 := fn_nil2
  clear he
  rcases h with rfl | ⟨g, rfl, hb⟩
  · go_enter Tryd.func20, Tryd.ntmps20
    go_wp2_with fail
    go_ret
    exact ⟨rfl, rfl⟩
  · have c0 := hb.cell 0
    clear hb
    go_enter Tryd.func20, Tryd.ntmps20
    go_wp2_with fail
    go_ret
    exact ⟨rfl, rfl⟩
set_option maxRecDepth 100000 in
theorem none_len (v : Value) (w : World) (h : NoT w v) :
    Calls Tryd.prog 19 #[v] w fun e w' => e = .returned (.int .i64 0) ∧ w = w' := by
  rcases h with rfl | ⟨g, rfl, hb⟩
  · go_enter Tryd.func19, Tryd.ntmps19
    go_wp2_with fail
    go_ret
    exact ⟨rfl, rfl⟩
  · have c0 := hb.cell 3
    clear hb
    go_enter Tryd.func19, Tryd.ntmps19
    go_wp2_with fail
    go_ret
    exact ⟨rfl, rfl⟩
set_option maxRecDepth 100000 in
theorem none_depth (v : Value) (w : World) (h : NoT w v) :
    Calls Tryd.prog 21 #[v] w fun e w' => e = .returned (.int .i64 0) ∧ w = w' := by
  rcases h with rfl | ⟨g, rfl, hb⟩
  · go_enter Tryd.func21, Tryd.ntmps21
    go_wp2_with fail
    go_ret
    exact ⟨rfl, rfl⟩
  · have c0 := hb.cell 1
    clear hb
    go_enter Tryd.func21, Tryd.ntmps21
    go_wp2_with fail
    go_ret
    exact ⟨rfl, rfl⟩

def nilFault : Value := .agg #[.int .i64 2, .int .i64 0, .string ⟨#[]⟩]
set_option maxRecDepth 100000 in
theorem noR_write (g : Nat) (chunk : ByteArray) (w : World) (h : NoR w g) :
    Calls Tryd.prog 30 #[.pointer (some ⟨g, 0, none⟩), .string chunk] w fun e w' => e = .returned nilFault ∧ Below w.heap.size w w' := by
  have c0 := Blk.cell h 0
  have hlt := Blk.lt h
  clear h
  go_enter Tryd.func30, Tryd.ntmps30
  go_wp2_with fail
  exact bodyPost_ret (v := nilFault) (by simp [results, Tryd.results30, go_sem, nilFault]) rfl ⟨rfl, (Below.refl _ _).alloc (Nat.le_refl _) _⟩
set_option maxRecDepth 100000 in
theorem noR_close (g : Nat) (w : World) (h : NoR w g) :
    Calls Tryd.prog 31 #[.pointer (some ⟨g, 0, none⟩)] w fun e w' => e = .returned nilFault ∧ Below w.heap.size w w' := by
  have c0 := Blk.cell h 0
  have hlt := Blk.lt h
  clear h
  go_enter Tryd.func31, Tryd.ntmps31
  go_wp2_with fail
  exact bodyPost_ret (v := nilFault) (by simp [results, Tryd.results31, go_sem, nilFault]) rfl ⟨rfl, (Below.refl _ _).alloc (Nat.le_refl _) _⟩
set_option maxRecDepth 100000 in
theorem noR_len (g : Nat) (w : World) (h : NoR w g) :
    Calls Tryd.prog 32 #[.pointer (some ⟨g, 0, none⟩)] w fun e w' => e = .returned (.int .i64 0) ∧ w = w' := by
  have c0 := Blk.cell h 12
  clear h
  go_enter Tryd.func32, Tryd.ntmps32
  go_wp2_with fail
  go_ret
  exact ⟨rfl, rfl⟩
set_option maxRecDepth 100000 in
theorem noR_depth (g : Nat) (w : World) (h : NoR w g) :
    Calls Tryd.prog 33 #[.pointer (some ⟨g, 0, none⟩)] w fun e w' => e = .returned (.int .i64 0) ∧ w = w' := by
  have c0 := Blk.cell h 2
  clear h
  go_enter Tryd.func33, Tryd.ntmps33
  go_wp2_with fail
  go_ret
  exact ⟨rfl, rfl⟩

theorem is_nil_any (a : Nat → Addr) (w : World) (he : Errs w a) : ∀ wx, Below w.heap.size w wx → ∀ k, k < 11 → Calls Tryd.prog 38 #[nilErr a, .iface 142 (.pointer (some (a k)))] wx fun e w' => e = .returned (.bool (decide (k = 1))) ∧ w' = wx := by
  intro wx hb k hk
  have h := he.below hb
  by_cases q : k = 1
  · subst q; exact is_same (a 1) wx
  · rw [decide_eq_false q]
    obtain ⟨c0, t0, e0⟩ := h.blk 1 (by decide)
    obtain ⟨ck, tk, ek⟩ := h.blk k hk
    exact is_other (a 1) (a k) c0 ck t0 tk wx (h.ne 1 k (by decide) hk (Ne.symm q)) e0 ek
set_option maxRecDepth 100000 in
theorem is2_nil (a : Nat → Addr) (w : World) (he : Errs w a) :
    Calls Tryd.prog 53 #[nilErr a, .int .i64 2] w fun e w' => e = .returned (.bool true) ∧ Below w.heap.size w w' := by
  have HC := Lib.hid (code_any 142 (.pointer (some (a 1))) 1 (by decide) a w he (is_nil_any a w he))
  unfold nilErr
  go_enter Tryd.func53, Tryd.ntmps53
  go_wp2_with fail
  refine HC.out.mono ?_
  rintro e w2 ⟨rfl, hb⟩
  have HB := Lib.hid hb
  clear hb
  go_wp2_with fail
  go_ret
  exact ⟨rfl, HB.out⟩
set_option maxRecDepth 100000 in
theorem fits_nil (a : Nat → Addr) (w : World) (he : Errs w a) :
    Calls Tryd.prog 29 #[nilErr a, nilFault] w fun e w' => e = .returned (.bool true) ∧ Below w.heap.size w w' := by
  have HI := Lib.hid (is2_nil a (w.alloc (.cells #[.int .i64 2, .int .i64 0, .string ⟨#[]⟩] 39)) (he.below ((Below.refl _ _).alloc (Nat.le_refl _) _)))
  unfold nilErr nilFault
  unfold nilErr at HI
  clear he
  go_enter Tryd.func29, Tryd.ntmps29
  go_wp2_with fail
  refine HI.out.mono ?_
  rintro e w2 ⟨rfl, hb⟩
  have HB : Hid (Below w.heap.size w w2) := Lib.hid (((Below.refl _ _).alloc (Nat.le_refl _) _).trans (hb.mono (by simp)))
  clear hb
  go_wp2_with fail
  go_ret
  exact ⟨rfl, HB.out⟩
end Go.Proofs.YtjfeebbhkolmoaaDoor
