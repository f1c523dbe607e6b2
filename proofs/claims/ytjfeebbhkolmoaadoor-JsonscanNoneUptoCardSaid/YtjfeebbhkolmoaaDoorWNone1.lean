/- does and all of cruciblelaw16 at a scanner that is not there, and the walk of JsonscanNone. -/
import Derived.Test.YtjfeebbhkolmoaaDoorWNone
namespace Go.Proofs.YtjfeebbhkolmoaaDoor
open Go.RowKit
set_option linter.unusedVariables false

/-- both in block gb: the program's scanner vT, the document's zero struct in block gr -/
structure Both0 (w : World) (gb gr : Nat) (vT : Value) : Prop where
  t : NoT w vT
  r : NoR w gr
  b : Blk w gb 28 #[vT, .pointer (some ⟨gr, 0, none⟩)]
theorem Both0.below {w w' : World} {gb gr : Nat} {vT : Value} (h : Both0 w gb gr vT) (hb : Below w.heap.size w w') : Both0 w' gb gr vT :=
  ⟨h.t.below hb, h.r.below hb, h.b.below hb h.b.lt⟩

set_option maxRecDepth 100000 in
set_option maxHeartbeats 3000000 in
theorem none_does (gb gr : Nat) (vT : Value) (k on : Int) (ch : ByteArray) (a : Nat → Addr) (w : World) (he : Errs w a) (h : Both0 w gb gr vT) :
    Calls Tryd.prog 13 #[.pointer (some ⟨gb, 0, none⟩), .agg #[.int .i64 k, .int .i64 on, .string ch]] w fun e w' => e = .returned (.bool true) ∧ Below w.heap.size w w' := by
  have HWT := Lib.hid (fun wx (hb : Below w.heap.size w wx) => none_write vT ch a wx (he.below hb) (h.t.below hb))
  have HCT := Lib.hid (fun wx (hb : Below w.heap.size w wx) => none_close vT a wx (he.below hb) (h.t.below hb))
  have HLT := Lib.hid (fun wx (hb : Below w.heap.size w wx) => none_len vT wx (h.t.below hb))
  have HDT := Lib.hid (fun wx (hb : Below w.heap.size w wx) => none_depth vT wx (h.t.below hb))
  have HWR := Lib.hid (fun wx (hb : Below w.heap.size w wx) => noR_write gr ch wx (h.r.below hb))
  have HCR := Lib.hid (fun wx (hb : Below w.heap.size w wx) => noR_close gr wx (h.r.below hb))
  have HLR := Lib.hid (fun wx (hb : Below w.heap.size w wx) => noR_len gr wx (h.r.below hb))
  have HDR := Lib.hid (fun wx (hb : Below w.heap.size w wx) => noR_depth gr wx (h.r.below hb))
  have HF := Lib.hid (fun wx (hb : Below w.heap.size w wx) => fits_nil a wx (he.below hb))
  generalize hwx : w.alloc (.cells #[.int .i64 k, .int .i64 on, .string ch] 31) = wx
  have BX : Hid (Below w.heap.size w wx) := Lib.hid (hwx ▸ (Below.refl _ _).alloc (Nat.le_refl _) _)
  have HX : Hid (Blk wx w.heap.size 31 #[.int .i64 k, .int .i64 on, .string ch]) := Lib.hid (hwx ▸ Blk.new w _ _)
  have HSZ : Hid (wx.heap.size = w.heap.size + 1) := Lib.hid (by rw [← hwx]; simp)
  have HB := Lib.hid (h.b.below BX.out h.b.lt)
  have c0 := HB.out.cell 0
  have c1 := HB.out.cell 1
  have x0 := HX.out.cell 0
  have x2 := HX.out.cell 2
  have KS : Hid (∀ wy, Below wx.heap.size wx wy → wy.cell? ⟨gb, 0, none⟩ = some vT ∧ wy.cell? ⟨gb, 1, none⟩ = some (.pointer (some ⟨gr, 0, none⟩)) ∧ wy.cell? ⟨w.heap.size, 2, none⟩ = some (.string ch)) :=
    Lib.hid (fun wy hb => ⟨(HB.out.below hb HB.out.lt).cell 0, (HB.out.below hb HB.out.lt).cell 1, (HX.out.below hb HX.out.lt).cell 2⟩)
  have TR : Hid (∀ wy wz, Below wx.heap.size wx wy → Below wy.heap.size wy wz → Below wx.heap.size wx wz) := Lib.hid (fun wy wz h1 h2 => h1.trans (h2.mono h1.size))
  have TX : Hid (∀ wy, Below wx.heap.size wx wy → Below w.heap.size w wy) := Lib.hid (fun wy h1 => BX.out.trans (h1.mono BX.out.size))
  have B1 : Hid (∀ n, Below wx.heap.size wx (wx.drewN n)) := Lib.hid (fun n => below_drewN' (Below.refl _ _) n)
  simp at c0 c1 x0 x2
  clear he h
  go_enter Tryd.func13, Tryd.ntmps13
  by_cases k1 : k = 1
  · subst k1
    go_upto_region 3 with fail
    go_region_held3 (fun w' => w'.cell? ⟨gb, 0, none⟩ = some vT ∧ w'.cell? ⟨gb, 1, none⟩ = some (.pointer (some ⟨gr, 0, none⟩)) ∧ w'.cell? ⟨w.heap.size, 2, none⟩ = some (.string ch))
      (first
        | exact ⟨c0, c1, x2⟩
        | exact KS.out _ B3.out
        | exact KS.out _ B2.out)
      (first
        | (go_at_call 17; refine (HWT.out _ (TX.out _ (B1.out 1))).mono ?_; rintro e w' ⟨rfl, rfl⟩)
        | (go_at_call 30; refine (HWR.out _ (TX.out _ (B1.out 1))).mono ?_; rintro e w2 ⟨rfl, h2⟩; have B2 := Lib.hid (TR.out _ _ (B1.out 1) h2); clear h2)
        | (go_at_call 29; refine (HF.out _ (TX.out _ B2.out)).mono ?_; rintro e w3 ⟨rfl, h3⟩; have B3 := Lib.hid (TR.out _ _ B2.out h3); clear h3))
    all_goals
      go_wp2_with fail
      go_ret
      exact ⟨rfl, TX.out _ B3.out⟩
  have q1 : (k == 1) = false := by rw [beq_eq_false_iff_ne]; exact k1
  by_cases k2 : k = 2
  · subst k2
    go_upto_region 5 with fail
    go_region_held3 (fun w' => w'.cell? ⟨gb, 0, none⟩ = some vT ∧ w'.cell? ⟨gb, 1, none⟩ = some (.pointer (some ⟨gr, 0, none⟩)) ∧ w'.cell? ⟨w.heap.size, 2, none⟩ = some (.string ch))
      (first
        | exact ⟨c0, c1, x2⟩
        | exact KS.out _ B3.out
        | exact KS.out _ B2.out)
      (first
        | (go_at_call 20; refine (HCT.out _ (TX.out _ (B1.out 1))).mono ?_; rintro e w' ⟨rfl, rfl⟩)
        | (go_at_call 31; refine (HCR.out _ (TX.out _ (B1.out 1))).mono ?_; rintro e w2 ⟨rfl, h2⟩; have B2 := Lib.hid (TR.out _ _ (B1.out 1) h2); clear h2)
        | (go_at_call 29; refine (HF.out _ (TX.out _ B2.out)).mono ?_; rintro e w3 ⟨rfl, h3⟩; have B3 := Lib.hid (TR.out _ _ B2.out h3); clear h3))
    all_goals
      go_wp2_with fail
      go_ret
      exact ⟨rfl, TX.out _ B3.out⟩
  have q2 : (k == 2) = false := by rw [beq_eq_false_iff_ne]; exact k2
  by_cases k3 : k = 3
  · subst k3
    go_upto_region 7 with fail
    go_region_held3 (fun w' => w'.cell? ⟨gb, 0, none⟩ = some vT ∧ w'.cell? ⟨gb, 1, none⟩ = some (.pointer (some ⟨gr, 0, none⟩)) ∧ w'.cell? ⟨w.heap.size, 2, none⟩ = some (.string ch))
      (first
        | exact ⟨c0, c1, x2⟩
        | exact KS.out _ (B1.out 1))
      (first
        | (go_at_call 19; refine (HLT.out _ (TX.out _ (B1.out 1))).mono ?_; rintro e w' ⟨rfl, rfl⟩)
        | (go_at_call 32; refine (HLR.out _ (TX.out _ (B1.out 1))).mono ?_; rintro e w2 ⟨rfl, rfl⟩))
    all_goals
      go_wp2_with fail
      go_ret
      exact ⟨rfl, TX.out _ (B1.out 1)⟩
  have q3 : (k == 3) = false := by rw [beq_eq_false_iff_ne]; exact k3
  by_cases k4 : k = 4
  · subst k4
    go_upto_region 9 with fail
    go_region_held3 (fun w' => w'.cell? ⟨gb, 0, none⟩ = some vT ∧ w'.cell? ⟨gb, 1, none⟩ = some (.pointer (some ⟨gr, 0, none⟩)) ∧ w'.cell? ⟨w.heap.size, 2, none⟩ = some (.string ch))
      (first
        | exact ⟨c0, c1, x2⟩
        | exact KS.out _ (B1.out 1))
      (first
        | (go_at_call 21; refine (HDT.out _ (TX.out _ (B1.out 1))).mono ?_; rintro e w' ⟨rfl, rfl⟩)
        | (go_at_call 33; refine (HDR.out _ (TX.out _ (B1.out 1))).mono ?_; rintro e w2 ⟨rfl, rfl⟩))
    all_goals
      go_wp2_with fail
      go_ret
      exact ⟨rfl, TX.out _ (B1.out 1)⟩
  have q4 : (k == 4) = false := by rw [beq_eq_false_iff_ne]; exact k4
  go_wp2_with fail
  go_ret
  exact ⟨rfl, BX.out⟩

set_option maxRecDepth 100000 in
set_option maxHeartbeats 3000000 in
theorem none_all (gb gr : Nat) (vT : Value) (a : Nat → Addr) (w : World) (he : Errs w a) (h : Both0 w gb gr vT) :
    Calls Tryd.prog 14 #[.pointer (some ⟨gb, 0, none⟩)] w fun e w' => e = .returned (.bool true) ∧ Below w.heap.size w w' := by
  have HD := Lib.hid (fun k wx (hb : Below w.heap.size w wx) => none_does gb gr vT k 0 ⟨#[]⟩ a wx (he.below hb) (h.below hb))
  clear he h
  go_enter Tryd.func14, Tryd.ntmps14
  go_wp2_with fail
  refine (HD.out 2 w (Below.refl _ _)).mono ?_
  rintro e w1 ⟨rfl, h1⟩
  have B1 := Lib.hid h1
  clear h1
  go_wp2_with fail
  refine (HD.out 3 w1 B1.out).mono ?_
  rintro e w2 ⟨rfl, h2⟩
  have B2 := Lib.hid (B1.out.trans (h2.mono B1.out.size))
  clear h2
  go_wp2_with fail
  refine (HD.out 4 w2 B2.out).mono ?_
  rintro e w3 ⟨rfl, h3⟩
  have B3 := Lib.hid (B2.out.trans (h3.mono B2.out.size))
  clear h3
  go_wp2_with fail
  refine (HD.out 1 w3 B3.out).mono ?_
  rintro e w4 ⟨rfl, h4⟩
  have B4 := Lib.hid (B3.out.trans (h4.mono B3.out.size))
  clear h4
  go_wp2_with fail
  refine (HD.out 2 w4 B4.out).mono ?_
  rintro e w5 ⟨rfl, h5⟩
  have B5 := Lib.hid (B4.out.trans (h5.mono B4.out.size))
  clear h5
  go_wp2_with fail
  go_ret
  exact ⟨rfl, B5.out⟩

end Go.Proofs.YtjfeebbhkolmoaaDoor
