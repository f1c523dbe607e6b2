/- The walk of cruciblelaw16.JsonscanNone. -/
import Derived.Test.YtjfeebbhkolmoaaDoorWNone1
import Derived.Test.YtjfeebbhkolmoaaDoorJsC
namespace Go.Proofs.YtjfeebbhkolmoaaDoor
open Go.RowKit
set_option linter.unusedVariables false

theorem blk_new' {w : World} {g : Nat} (h : w.heap.size = g) (t : TypeId) (cs : Array Value) : Blk (w.alloc (.cells cs t)) g t cs := h ▸ Blk.new w t cs

set_option maxRecDepth 100000 in
set_option maxHeartbeats 3000000 in
theorem wnone (k on : Int) (ch : ByteArray) (a : Nat → Addr) (w : World) (he : Errs w a) :
    Calls Tryd.prog 4 #[.agg #[.int .i64 k, .int .i64 on, .string ch]] w fun e w' => e = .returned (.bool true) ∧ Below w.heap.size w w' := by
  have HE := Lib.hid he
  clear he
  go_enter Tryd.func4, Tryd.ntmps4
  go_upto_region 3 with fail
  generalize hw6 : ((((((w.alloc _).alloc _).alloc _).alloc _).alloc _).alloc _) = w6
  have HX : Hid (Blk w6 w.heap.size 31 #[.int .i64 k, .int .i64 on, .string ch]) := Lib.hid (by
    rw [← hw6]; exact (((((Blk.new w _ _).alloc _).alloc _).alloc _).alloc _).alloc _)
  have HA : Hid (Both0 w6 (w.heap.size + 1 + 1) (w.heap.size + 1) (.pointer none)) := Lib.hid (by
    rw [← hw6]
    exact ⟨.inl rfl, ((((blk_new' (by simp) _ _).alloc _).alloc _).alloc _).alloc _, (((blk_new' (by simp) _ _).alloc _).alloc _).alloc _⟩)
  have HB : Hid (Both0 w6 (w.heap.size + 1 + 1 + 1 + 1 + 1) (w.heap.size + 1 + 1 + 1 + 1) (.pointer (some ⟨w.heap.size + 1 + 1 + 1, 0, none⟩))) := Lib.hid (by
    rw [← hw6]
    exact ⟨.inr ⟨_, rfl, ((blk_new' (by simp) _ _).alloc _).alloc _⟩, (blk_new' (by simp) _ _).alloc _, blk_new' (by simp) _ _⟩)
  have B6 : Hid (Below w.heap.size w w6) := Lib.hid (by
    rw [← hw6]
    exact ((((((Below.refl _ _).alloc (Nat.le_refl _) _).alloc (by simp) _).alloc (by simp; omega) _).alloc (by simp; omega) _).alloc (by simp; omega) _).alloc (by simp; omega) _)
  have HL := Lib.hid (fun wx (hb : Below w.heap.size w wx) => lives_any a wx (HE.out.below hb))
  have HE6 := Lib.hid (HE.out.below B6.out)
  have DA := Lib.hid (fun wx (hb : Below w6.heap.size w6 wx) => none_does _ _ _ k on ch a wx (HE6.out.below hb) (HA.out.below hb))
  have DB := Lib.hid (fun wx (hb : Below w6.heap.size w6 wx) => none_does _ _ _ k on ch a wx (HE6.out.below hb) (HB.out.below hb))
  have AA := Lib.hid (fun wx (hb : Below w6.heap.size w6 wx) => none_all _ _ _ a wx (HE6.out.below hb) (HA.out.below hb))
  have AB := Lib.hid (fun wx (hb : Below w6.heap.size w6 wx) => none_all _ _ _ a wx (HE6.out.below hb) (HB.out.below hb))
  clear HE HE6 HA HB hw6
  have x0 := HX.out.cell 0
  have x1 := HX.out.cell 1
  have x2 := HX.out.cell 2
  simp at x0 x1 x2
  go_wp2_with fail
  refine (DA.out w6 (Below.refl _ _)).mono ?_
  rintro e w1 ⟨rfl, h1⟩
  have H1 := Lib.hid h1
  have HX1 := HX.out.below h1 HX.out.lt
  have y0 := HX1.cell 0
  have y1 := HX1.cell 1
  have y2 := HX1.cell 2
  simp at y0 y1 y2
  clear h1 HX1 x0 x1 x2
  go_wp2_with fail
  refine (DB.out w1 H1.out).mono ?_
  rintro e w2 ⟨rfl, h2⟩
  have H2 := Lib.hid (H1.out.trans (h2.mono H1.out.size))
  clear h2 y0 y1 y2
  go_wp2_with fail
  refine (AA.out w2 H2.out).mono ?_
  rintro e w3 ⟨rfl, h3⟩
  have H3 := Lib.hid (H2.out.trans (h3.mono H2.out.size))
  clear h3
  go_wp2_with fail
  refine (AB.out w3 H3.out).mono ?_
  rintro e w4 ⟨rfl, h4⟩
  have H4 := Lib.hid (B6.out.trans ((H3.out.trans (h4.mono H3.out.size)).mono B6.out.size))
  clear h4
  go_wp2_with fail
  refine (HL.out w4 H4.out).mono ?_
  rintro e w5 ⟨rfl, h5⟩
  have H5 := Lib.hid (H4.out.trans (h5.mono H4.out.size))
  clear h5
  go_wp2_with fail
  go_ret
  exact ⟨rfl, H5.out⟩
end Go.Proofs.YtjfeebbhkolmoaaDoor
