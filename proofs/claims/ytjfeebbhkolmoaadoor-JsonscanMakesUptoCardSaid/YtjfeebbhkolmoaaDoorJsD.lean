/- Contract of cruciblelaw16.same at two errors of one number and place. -/
import Derived.Test.YtjfeebbhkolmoaaDoorJsC
namespace Go.Proofs.YtjfeebbhkolmoaaDoor
open Go.RowKit
set_option linter.unusedVariables false

set_option maxRecDepth 100000 in
theorem at_nil (w : World) : Calls Tryd.prog 22 #[.nilIface] w fun e w' => e = .returned (.tuple #[.int .i64 0, .bool false]) ∧ Below w.heap.size w w' := by
  have H := Lib.hid (fun wx => as_nil (.iface 77 (.pointer (some ⟨w.heap.size, 0, none⟩))) wx)
  go_enter Tryd.func22, Tryd.ntmps22
  go_wp2_with fail
  refine (H.out _).mono ?_
  rintro e w2 ⟨rfl, rfl⟩
  go_wp2_with fail
  go_ret2
  exact ⟨rfl, (Below.refl _ _).alloc (Nat.le_refl _) _⟩
set_option maxRecDepth 100000 in
theorem code_nil (w : World) : Calls Tryd.prog 26 #[.nilIface] w fun e w' => e = .returned (.int .i64 0) ∧ w = w' := by
  go_enter Tryd.func26, Tryd.ntmps26
  go_wp2_with fail
  go_ret
  exact ⟨rfl, rfl⟩
theorem okc_lt {c : Nat} (h : okCode c) (h0 : c ≠ 0) : c - 1 < 11 := by rcases h with rfl | rfl | rfl <;> omega

set_option maxRecDepth 100000 in
set_option maxHeartbeats 1500000 in
theorem same_any (a : Nat → Addr) (w : World) (he : Errs w a) (u v : Value) (lu lv c : Nat) (n : Int) (hc : okCode c) (hu : ErrAt w a lu u c n) (hv : ErrAt w a lv v c n) :
    Calls Tryd.prog 18 #[u, v] w fun e w' => e = .returned (.bool true) ∧ Below w.heap.size w w' := by
  by_cases h0 : c = 0
  · subst h0
    obtain rfl := err_nil hu
    obtain rfl := err_nil hv
    have H := Lib.hid (fun wx => at_nil wx)
    have K := Lib.hid (fun wx => code_nil wx)
    clear hu hv he hc
    go_enter Tryd.func18, Tryd.ntmps18
    go_wp2_with fail
    refine (H.out _).mono ?_
    rintro e w2 ⟨rfl, hb2⟩
    have HB2 := Lib.hid hb2
    clear hb2
    go_wp2_with fail
    refine (H.out _).mono ?_
    rintro e w3 ⟨rfl, hb3⟩
    have HB3 : Hid (Below w.heap.size w w3) := Lib.hid (HB2.out.trans (hb3.mono HB2.out.size))
    clear hb3
    go_wp2_with fail
    refine (K.out _).mono ?_
    rintro e w4 ⟨rfl, rfl⟩
    go_wp2_with fail
    refine (K.out _).mono ?_
    rintro e w4 ⟨rfl, rfl⟩
    go_wp2_with fail
    go_ret
    exact ⟨rfl, HB3.out⟩
  · obtain ⟨g1, -, rfl, hf1⟩ := err_some h0 hu
    obtain ⟨g2, -, rfl, hf2⟩ := err_some h0 hv
    have hK := okc_lt hc h0
    have A1 := Lib.hid (fun wx (hb : Below w.heap.size w wx) => at_fault g1 n a wx (c - 1) hK (he.below hb) (Blk.below hf1 hb (Blk.lt hf1)))
    have A2 := Lib.hid (fun wx (hb : Below w.heap.size w wx) => at_fault g2 n a wx (c - 1) hK (he.below hb) (Blk.below hf2 hb (Blk.lt hf2)))
    have C1 := Lib.hid (fun wx (hb : Below w.heap.size w wx) => code_fault g1 n a wx (c - 1) hK (he.below hb) (Blk.below hf1 hb (Blk.lt hf1)))
    have C2 := Lib.hid (fun wx (hb : Below w.heap.size w wx) => code_fault g2 n a wx (c - 1) hK (he.below hb) (Blk.below hf2 hb (Blk.lt hf2)))
    generalize ((c - 1 : Nat) : Int) + 1 = m at *
    clear hu hv he hc hf1 hf2 hK h0
    go_enter Tryd.func18, Tryd.ntmps18
    go_wp2_with fail
    refine (A1.out _ (Below.refl _ _)).mono ?_
    rintro e w2 ⟨rfl, hb2⟩
    have HB2 := Lib.hid hb2
    clear hb2
    go_wp2_with fail
    refine (A2.out _ HB2.out).mono ?_
    rintro e w3 ⟨rfl, hb3⟩
    have HB3 : Hid (Below w.heap.size w w3) := Lib.hid (HB2.out.trans (hb3.mono HB2.out.size))
    clear hb3
    go_wp2_with fail
    refine (C1.out _ HB3.out).mono ?_
    rintro e w4 ⟨rfl, hb4⟩
    have HB4 : Hid (Below w.heap.size w w4) := Lib.hid (HB3.out.trans (hb4.mono HB3.out.size))
    clear hb4
    go_wp2_with fail
    refine (C2.out _ HB4.out).mono ?_
    rintro e w5 ⟨rfl, hb5⟩
    have HB5 : Hid (Below w.heap.size w w5) := Lib.hid (HB4.out.trans (hb5.mono HB4.out.size))
    clear hb5
    go_wp2_with fail
    go_ret
    exact ⟨rfl, HB5.out⟩
end Go.Proofs.YtjfeebbhkolmoaaDoor
