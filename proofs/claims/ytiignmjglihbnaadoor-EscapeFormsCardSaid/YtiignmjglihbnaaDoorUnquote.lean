/- Contract of escape.Unquote. -/
import Derived.Test.YtiignmjglihbnaaDoorScan
namespace Go.Proofs.YtiignmjglihbnaaDoor
open Go.RowKit Go.Lib
set_option linter.unusedVariables false

def unqQ (s : ByteArray) : Except Nat (List Nat × Nat) → Except Nat (List Nat)
  | .error i => .error i
  | .ok (t, n) => if n < s.size then .error n else .ok t
def UnqPost (w : World) (a : Nat → Addr) (R : Except Nat (List Nat)) (e : Ending) (w' : World) : Prop :=
  Below w.heap.size w w' ∧ match R with
  | .ok t => e = .returned (.tuple #[.string (strOf t), .nilIface])
  | .error i => ∃ g, e = .returned (.tuple #[.string ⟨#[]⟩, .iface 66 (.pointer (some ⟨g, 0, none⟩))]) ∧ FaultB w' g (a 2) i

set_option maxRecDepth 100000 in
theorem unquote_of (s : ByteArray) (R : Except Nat (List Nat × Nat)) (a : Nat → Addr) (w : World) (he : Errs w a)
    (hsc : Calls Tryd.prog 12 #[.string s, .int .i64 0] w (ScanPost w a R)) :
    Calls Tryd.prog 16 #[.string s] w (UnqPost w a (unqQ s R)) := by
  have HSC := Lib.hid hsc
  have HE := Lib.hid he
  clear hsc he
  unfold ScanPost at HSC
  match R with
  | .error i =>
    go_enter Tryd.func16, Tryd.ntmps16
    go_wp2_with fail
    refine HSC.out.mono ?_
    rintro e w2 ⟨hb2, g, rfl, hf2⟩
    have HB2 := Lib.hid hb2
    have HF2 := Lib.hid hf2
    clear hb2 hf2
    go_wp2_with fail
    go_ret2
    exact ⟨HB2.out, g, rfl, HF2.out⟩
  | .ok (t, n) =>
    by_cases hn : n < s.size
    · have HN := Lib.hid hn
      have hn' : (n : Int) < (s.size : Int) := by omega
      have BD := Lib.hid (fun wx (hb : Below w.heap.size w wx) => bad_err (n : Int) a wx (HE.out.below hb))
      clear hn
      generalize strOf t = T at *
      go_enter Tryd.func16, Tryd.ntmps16
      go_wp2_with fail
      refine HSC.out.mono ?_
      rintro e w2 ⟨hb2, rfl⟩
      have HB2 := Lib.hid hb2
      clear hb2
      go_wp2_with fail
      refine (BD.out w2 HB2.out).mono ?_
      rintro e w3 ⟨rfl, hf3, hb3⟩
      have HF3 := Lib.hid hf3
      have HB3 : Hid (Below w.heap.size w w3) := Lib.hid (HB2.out.trans (hb3.mono HB2.out.size))
      clear hf3 hb3
      go_wp2_with fail
      go_ret2
      have : unqQ s (.ok (t, n)) = .error n := if_pos HN.out
      rw [this]
      exact ⟨HB3.out, w2.heap.size, rfl, HF3.out⟩
    · have HN := Lib.hid hn
      have hn' : ¬ ((n : Int) < (s.size : Int)) := by omega
      clear hn
      go_enter Tryd.func16, Tryd.ntmps16
      go_wp2_with fail
      refine HSC.out.mono ?_
      rintro e w2 ⟨hb2, rfl⟩
      have HB2 := Lib.hid hb2
      clear hb2
      go_wp2_with fail
      go_ret2
      have : unqQ s (.ok (t, n)) = .ok t := if_neg HN.out
      rw [this]
      exact ⟨HB2.out, rfl⟩
end Go.Proofs.YtiignmjglihbnaaDoor
