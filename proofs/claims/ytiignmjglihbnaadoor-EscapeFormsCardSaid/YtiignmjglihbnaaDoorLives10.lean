/- Contract of cruciblelaw10.lives. -/
import Derived.Test.YtiignmjglihbnaaDoorLaw10
namespace Go.Proofs.YtiignmjglihbnaaDoor
open Go.RowKit
set_option linter.unusedVariables false

def lv1 : ByteArray := ⟨#[97, 10, 195, 169]⟩
def lv2 : ByteArray := ⟨#[34, 97, 92, 117, 48, 48, 48, 97, 92, 117, 48, 48, 69, 57, 34]⟩
def lv3 : ByteArray := ⟨#[34, 92, 117, 100, 56, 51, 100, 120, 34]⟩
theorem lv1_text : isTextB lv1 = true := by kernel_rfl
theorem lv1_lit : litB lv1 = ⟨#[34, 97, 92, 110, 195, 169, 34]⟩ := by kernel_rfl
theorem lv2_unq : unqQ lv2 (scanQ lv2 0) = .ok [97, 10, 195, 169] := by kernel_rfl
theorem lv3_unq : unqQ lv3 (scanQ lv3 0) = .error 7 := by kernel_rfl
theorem lv_str : strOf [97, 10, 195, 169] = ⟨#[97, 10, 195, 169]⟩ := by kernel_rfl

theorem unquote_at (s : ByteArray) (hs : s.size ≤ 140737488351232) (a : Nat → Addr) (w : World) (he : Errs w a) (hsh : Shorts w) :
    Calls Tryd.prog 16 #[.string s] w (UnqPost w a (unqQ s (scanQ s 0))) :=
  unquote_of s (scanQ s 0) a w he (scan_at s hs 0 (Nat.zero_le _) a w he hsh)

set_option maxRecDepth 100000 in
set_option maxHeartbeats 1500000 in
theorem lives_any (a : Nat → Addr) (w : World) (he : Errs w a) (hsh : Shorts w) :
    Calls Tryd.prog 18 #[] w fun e w' => e = .returned (.bool true) ∧ Below w.heap.size w w' := by
  have H1 := Lib.hid (quote_yes lv1 (by decide) lv1_text w hsh)
  rw [lv1_lit] at H1
  have H2 := Lib.hid (fun wx (hb : Below w.heap.size w wx) => unquote_at lv2 (by decide) a wx (he.below hb) (hsh.below hb))
  have H3 := Lib.hid (fun wx (hb : Below w.heap.size w wx) => unquote_at lv3 (by decide) a wx (he.below hb) (hsh.below hb))
  rw [lv2_unq] at H2
  rw [lv3_unq] at H3
  unfold UnqPost lv2 at H2
  unfold UnqPost lv3 at H3
  unfold lv1 at H1
  simp only [] at H2 H3
  rw [lv_str] at H2
  have HE := Lib.hid he
  clear he hsh
  go_enter Tryd.func18, Tryd.ntmps18
  go_wp2_with fail
  refine H1.out.mono ?_
  rintro e w1 ⟨rfl, hb1⟩
  have HB1 := Lib.hid hb1
  clear hb1
  go_wp2_with fail
  refine (H2.out w1 HB1.out).mono ?_
  rintro e w2 ⟨hb2, rfl⟩
  have HB2 : Hid (Below w.heap.size w w2) := Lib.hid (HB1.out.trans (hb2.mono HB1.out.size))
  clear hb2
  go_wp2_with fail
  refine (H3.out w2 HB2.out).mono ?_
  rintro e w3 ⟨hb3, g, rfl, hf3⟩
  have HB3 : Hid (Below w.heap.size w w3) := Lib.hid (HB2.out.trans (hb3.mono HB2.out.size))
  have IA := Lib.hid (isAt_fault g 7 a w3 (HE.out.below HB3.out) hf3 7)
  rw [show ((7 : Int) == (7 : Int)) = true from rfl] at IA
  clear hb3 hf3
  go_wp2_with fail
  refine IA.out.mono ?_
  rintro e w4 ⟨rfl, hb4⟩
  have HB4 : Hid (Below w.heap.size w w4) := Lib.hid (HB3.out.trans (hb4.mono HB3.out.size))
  clear hb4 IA
  go_wp2_with fail
  go_ret
  exact ⟨rfl, HB4.out⟩
end Go.Proofs.YtiignmjglihbnaaDoor
