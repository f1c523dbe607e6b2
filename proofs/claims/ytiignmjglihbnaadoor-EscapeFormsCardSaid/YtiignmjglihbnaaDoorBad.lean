/- Contract of utf.Bad. -/
import Derived.Test.YtiignmjglihbnaaDoorFirst
import Derived.Test.YtiignmjglihbnaaDoorDfa
namespace Go.Proofs.YtiignmjglihbnaaDoor
open Go.RowKit

def badAt (s : ByteArray) : Nat := badF (bt s) s.size s.size 0
def BadRel (s : ByteArray) (w : World) (v : Value) (wr : World) : Prop :=
  ∃ k f : Nat, v = .int .i64 k ∧ k ≤ s.size ∧ s.size - k ≤ f ∧ badF (bt s) s.size f k = badAt s ∧ w = wr
theorem bt_outs (s : ByteArray) : ∀ j, s.size ≤ j → bt s j = 256 := fun _ h => bt_out h
theorem badF_next (b : Nat → Nat) (len f i : Nat) (h : i < len) (hn : nx b i ≠ 0) : badF b len (f + 1) i = badF b len f (i + nx b i) := by
  show (if i < len then _ else _) = _
  rw [if_pos h, if_neg hn]
theorem badF_stop (b : Nat → Nat) (len f i : Nat) (h : i < len) (hn : nx b i = 0) : badF b len (f + 1) i = i := by
  show (if i < len then _ else _) = _
  rw [if_pos h, if_pos hn]
theorem nx_in (s : ByteArray) (i : Nat) (h : i < s.size) : i + nx (bt s) i ≤ s.size := by
  by_cases hn : nx (bt s) i = 0
  · omega
  · have h1 := bad_le (bt s) s.size (bt_outs s) 1 i (by omega)
    rw [badF_next _ _ 0 i h hn] at h1
    exact h1

set_option maxRecDepth 100000 in
theorem bad_any (s : ByteArray) (hs : s.size ≤ 140737488355328) (w : World) :
    Calls Tryd.prog 19 #[.string s] w fun e w' => e = .returned (.int .i64 (badAt s)) ∧ w = w' := by
  have HF := Lib.hid (fun i (hi : i < s.size) => first_any s i hi hs)
  have HSZ := Lib.hid hs
  clear hs
  go_enter Tryd.func19, Tryd.ntmps19
  go_wp2_with fail
  go_loopw [3] (fun v wr => BadRel s w v wr) (fun v _ => s.size - (intOf v).toNat)
  case atStart => exact ⟨0, s.size, rfl, Nat.zero_le _, Nat.le_refl _, rfl, rfl⟩
  case round =>
    obtain ⟨k, f, rfl, hk, hf, hb, rfl⟩ := hrel
    have HB := Lib.hid hb
    clear hb
    by_cases hlt : k < s.size
    · obtain ⟨f, rfl⟩ : ∃ f', f = f' + 1 := ⟨f - 1, by omega⟩
      have HX := Lib.hid (nx_in s k hlt)
      have HNX := Lib.hid (nx_le (bt s) k)
      have HST := Lib.hid (badF_stop (bt s) s.size f k hlt)
      have HNE := Lib.hid (badF_next (bt s) s.size f k hlt)
      go_wp2_with fail
      refine (HF.out k hlt w).mono ?_
      rintro e w' ⟨r, rfl, rfl⟩
      by_cases hn : nx (bt s) k = 0
      · have HR := Lib.hid (HB.out.symm.trans (HST.out hn))
        have e1 : (nx (bt s) k != 0) = false := by rw [hn]; rfl
        rw [e1]
        clear HNE hn
        go_wp2_with fail
        go_ret
        exact ⟨by rw [HR.out] <;> rfl, rfl⟩
      · have e1 : (nx (bt s) k != 0) = true := by rw [bne_iff_ne]; exact hn
        have HR := Lib.hid ((HNE.out hn).symm.trans HB.out)
        rw [e1]
        have n1 : 0 < nx (bt s) k := by omega
        have x1 := HX.out
        generalize nx (bt s) k = n at *
        have s1 : IntKind.i64.wrap ((k : Int) + (n : Int)) = (k : Int) + n := IntWalk.i64_in _ (by have := HSZ.out; omega)
        clear HST HNE e1 hn
        go_wp2_with fail
        go_roundw
        case rel => exact ⟨k + n, f, by go_num, x1, by omega, HR.out, rfl⟩
        case measure => simp [intOf]; omega
    · have HR : Hid (badAt s = k) := Lib.hid (by
        rw [← HB.out]
        cases f with
        | zero => rfl
        | succ f => show (if k < s.size then _ else _) = _; rw [if_neg hlt])
      go_wp2_with fail
      go_ret
      exact ⟨by rw [HR.out] <;> rfl, rfl⟩
end Go.Proofs.YtiignmjglihbnaaDoor
