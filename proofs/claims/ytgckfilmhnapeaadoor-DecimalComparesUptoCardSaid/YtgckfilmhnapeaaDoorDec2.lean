/- Contracts of decimal.fine, decimal.plain, decimal.sign. -/
import Derived.Test.YtgckfilmhnapeaaDoorRows
import Derived.Test.YtgckfilmhnapeaaDoorMem
import Derived.Test.YtgckfilmhnapeaaDoorDec1
import Derived.Test.YtgckfilmhnapeaaDoorDecode
import Derived.Test.YtgckfilmhnapeaaDoorShelf
import Derived.Lib.OthersKept
import Derived.WalkKit
import Derived.WalkLawsBesides
import Derived.WalkSpells
import Derived.ProofKit
import Derived.Outline
import Derived.Lib.Hide
import Derived.Deep.QuietTactic
import Derived.BigQuiet
import Derived.StillTailTactics
namespace Go.Proofs.YtgckfilmhnapeaaDoor
open Go.RowKit Go.Lib
set_option linter.unusedVariables false

def iterPos (w : World) (b : Nat) : Nat := match w.heap[b]? with
  | some (.stringIter _ p) => p
  | _ => 0
theorem iterPos_of {w : World} {b : Nat} {s : ByteArray} {p : Nat} (h : w.heap[b]? = some (.stringIter s p)) : iterPos w b = p := by unfold iterPos; rw [h]

theorem get_bang (s : ByteArray) (k : Nat) (h : k < s.size) : s.get! k = s[k] := by
  show s.data[k]! = s.data[k]'h
  exact getElem!_pos s.data k h

def FineRel (s : ByteArray) (w : World) (wr : World) : Prop :=
  ∃ k : Nat, k ≤ s.size ∧ wr.heap[w.heap.size + 1]? = some (.stringIter s k) ∧ fineL (s.data.toList.take k) = true ∧ Below w.heap.size w wr ∧ w.heap.size + 1 < wr.heap.size
theorem bytes_len (s : ByteArray) : s.data.toList.length = s.size := by rw [Array.length_toList]; rfl
theorem bytes_at (s : ByteArray) (k : Nat) (h : k < s.size) : s.data.toList[k]'(by rw [bytes_len]; exact h) = s[k] := rfl

set_option maxRecDepth 100000 in
set_option maxHeartbeats 1500000 in
theorem fine_any (neg : Bool) (s : ByteArray) (p : Int) (w : World) :
    Calls Tryd.prog 25 #[.agg #[.bool neg, .string s, .int .i64 p]] w fun e w' => e = .returned (.bool (fineB s)) ∧ Below w.heap.size w w' := by
  go_enter Tryd.func25, Tryd.ntmps25
  go_wp2_with fail
  generalize hw1 : w.alloc (.cells #[.bool neg, .string s, .int .i64 p] 23) = w1
  have hz : w1.heap.size = w.heap.size + 1 := by rw [← hw1]; simp
  have hbel : Below w.heap.size w w1 := by rw [← hw1]; exact (Below.refl _ _).alloc (Nat.le_refl _) _
  have HZ := Lib.hid hz
  have HB := Lib.hid hbel
  clear hz hbel hw1
  go_loopw [4] (fun _ wr => FineRel s w wr) (fun _ wr => s.size - iterPos wr (w.heap.size + 1))
  case atStart =>
    refine ⟨0, Nat.zero_le _, ?_, rfl, (HB.out).alloc (by rw [HZ.out]; omega) _, by have := HZ.out; simp [World.iter]; omega⟩
    rw [← HZ.out]; exact World.iter_heap w1 s 0
  case round =>
    obtain ⟨k, hk, hit, hf, hb, hs⟩ := hrel
    have HK := Lib.hid hit
    have HF := Lib.hid hf
    have HB2 := Lib.hid hb
    have HS := Lib.hid hs
    clear hit hf hb hs
    by_cases hlt : k < s.size
    · by_cases ha : (s[k]).toNat < 128
      · have hnx := fun ty => run_next_ascii_at (P := Tryd.prog) wr (w.heap.size + 1) s k ty HK.out hlt ha
        have HI : Hid ((wr.iterAt (w.heap.size + 1) s (k + 1)).heap[w.heap.size + 1]? = some (.stringIter s (k + 1))) := Lib.hid (Lib.iterAt_heap _ _ _ _ _ HK.out)
        have HB3 : Hid (Below w.heap.size w (wr.iterAt (w.heap.size + 1) s (k + 1))) := Lib.hid (Lib.below_iterAt HB2.out (by omega) _ _)
        by_cases h1 : (s[k]).toNat < 48
        · have h1' : ((s[k]).toNat : Int) < 48 := by omega
          have HN : Hid (fineB s = false) := Lib.hid (fine_no s.data.toList k (by rw [bytes_len]; exact hlt) (.inl h1))
          generalize (s[k]).toNat = c at *
          clear hlt ha h1
          go_wp2_with fail
          go_ret
          exact ⟨by rw [HN.out] <;> rfl, HB3.out⟩
        · have h1' : ¬ ((s[k]).toNat : Int) < 48 := by omega
          by_cases h2 : 57 < (s[k]).toNat
          · have h2' : 57 < ((s[k]).toNat : Int) := by omega
            have HN : Hid (fineB s = false) := Lib.hid (fine_no s.data.toList k (by rw [bytes_len]; exact hlt) (.inr h2))
            generalize (s[k]).toNat = c at *
            clear hlt ha h1 h2
            go_wp2_with fail
            go_ret
            exact ⟨by rw [HN.out] <;> rfl, HB3.out⟩
          · have h2' : ¬ 57 < ((s[k]).toNat : Int) := by omega
            have HN : Hid (fineL (s.data.toList.take (k + 1)) = true) := Lib.hid (fine_take_succ s.data.toList k (by rw [bytes_len]; exact hlt) HF.out (by rw [bytes_at s k hlt]; omega) (by rw [bytes_at s k hlt]; omega))
            have HL := Lib.hid hlt
            have hzz : (wr.iterAt (w.heap.size + 1) s (k + 1)).heap.size = wr.heap.size := by simp [World.iterAt]
            have HZZ := Lib.hid hzz
            generalize (s[k]).toNat = c at *
            clear hlt ha h1 h2 hzz
            go_wp2_with fail
            go_roundw
            case rel => exact ⟨k + 1, HL.out, HI.out, HN.out, HB3.out, by rw [HZZ.out]; exact HS.out⟩
            case measure => rw [iterPos_of HI.out, iterPos_of HK.out]; have := HL.out; omega
      · have hnx := fun ty => run_next_any_at (P := Tryd.prog) wr (w.heap.size + 1) s k ty HK.out hlt
        have hd : 128 ≤ (Utf8.decode s k).1 := decode_hi s k (by rw [Nat.add_zero, get_bang s k hlt]; omega)
        have HB3 : Hid (Below w.heap.size w (wr.iterAt (w.heap.size + 1) s (k + (Utf8.decode s k).2))) := Lib.hid (Lib.below_iterAt HB2.out (by omega) _ _)
        have HN : Hid (fineB s = false) := Lib.hid (fine_no s.data.toList k (by rw [bytes_len]; exact hlt) (.inr (by rw [bytes_at s k hlt]; omega)))
        generalize (Utf8.decode s k).1 = r at *
        generalize k + (Utf8.decode s k).2 = k2 at *
        have h1' : ¬ (r : Int) < 48 := by omega
        have h2' : 57 < (r : Int) := by omega
        clear hlt ha hd
        go_wp2_with fail
        go_ret
        exact ⟨by rw [HN.out] <;> rfl, HB3.out⟩
    · obtain rfl : k = s.size := by omega
      have hnx := fun ty => run_next_end_at (P := Tryd.prog) wr (w.heap.size + 1) s s.size ty HK.out (Nat.lt_irrefl _)
      have HN : Hid (fineB s = true) := Lib.hid (by have h := HF.out; rw [← bytes_len] at h; exact fine_full _ h)
      clear hlt hk
      go_wp2_with fail
      go_ret
      exact ⟨by rw [HN.out] <;> rfl, HB2.out⟩

theorem tupS {x : ByteArray} {a b : Int} (h : a = b) : Ending.returned (.tuple #[.string x, .int .i64 a]) = .returned (.tuple #[.string x, .int .i64 b]) := by rw [h]
set_option maxRecDepth 100000 in
theorem plain_any (s : ByteArray) (w : World) (hs : s.size ≤ 9223372036854775807) :
    Calls Tryd.prog 26 #[.string s] w fun e w' => e = .returned (.tuple #[.string (plainS s), .int .i64 (leadL s.data.toList : Nat)]) ∧ w' = w := by
  have hl := trimLeft_len s.data.toList
  rw [bytes_len] at hl
  have H1 := Lib.hid (Tryd.strings_TrimLeft_one s 48 (by decide) w)
  have hsz : (⟨(trimLeftB s.data.toList 48).toArray⟩ : ByteArray).size = (trimLeftB s.data.toList 48).length := size_mk _
  have H2 := Lib.hid (Tryd.strings_TrimRight_one ⟨(trimLeftB s.data.toList 48).toArray⟩ 48 (by decide) w (by rw [hsz]; omega))
  have HE : Hid ((s.size : Int) - ((trimLeftB s.data.toList 48).length : Int) = (leadL s.data.toList : Nat)) := Lib.hid (by unfold leadL; rw [bytes_len]; omega)
  have HP : Hid ((⟨(trimRightB (⟨(trimLeftB s.data.toList 48).toArray⟩ : ByteArray).data.toList 48).toArray⟩ : ByteArray) = plainS s) := Lib.hid rfl
  have hz : (⟨(trimLeftB s.data.toList 48).toArray⟩ : ByteArray).size ≤ s.size := by rw [hsz]; exact hl
  rw [← hsz] at HE
  rw [HP.out] at H2
  generalize (⟨(trimLeftB s.data.toList 48).toArray⟩ : ByteArray) = t at *
  generalize plainS s = u at *
  generalize leadL s.data.toList = n at *
  clear hsz hl HP
  go_enter Tryd.func26, Tryd.ntmps26
  go_wp2_with fail
  refine H1.out.mono ?_
  rintro e w' ⟨rfl, rfl⟩
  go_wp2_with fail
  refine H2.out.mono ?_
  rintro e w' ⟨rfl, rfl⟩
  go_wp2_with fail
  go_ret2
  exact ⟨tupS HE.out, rfl⟩

def sgnS (neg : Bool) (s : ByteArray) : Int := if s.data.toList = [] then 0 else if neg = true then -1 else 1
set_option maxRecDepth 100000 in
theorem sign_any (neg : Bool) (s : ByteArray) (w : World) :
    Calls Tryd.prog 27 #[.bool neg, .string s] w fun e w' => e = .returned (.int .i64 (sgnS neg s)) ∧ w = w' := by
  by_cases h : s.data.toList = []
  · have HE : Hid (sgnS neg s = 0) := Lib.hid (by unfold sgnS; rw [if_pos h])
    have h1 : s.toList = [] := by rw [Lib.toList_data]; exact h
    clear h
    go_enter Tryd.func27, Tryd.ntmps27
    go_wp2_with fail
    go_ret
    exact ⟨by rw [HE.out] <;> rfl, rfl⟩
  · have h1 : s.toList.isEmpty = false := by rw [Lib.toList_data]; simpa using h
    cases neg
    · have HE : Hid (sgnS false s = 1) := Lib.hid (by unfold sgnS; rw [if_neg h]; rfl)
      clear h
      go_enter Tryd.func27, Tryd.ntmps27
      go_wp2_with fail
      go_ret
      exact ⟨by rw [HE.out] <;> rfl, rfl⟩
    · have HE : Hid (sgnS true s = -1) := Lib.hid (by unfold sgnS; rw [if_neg h]; rfl)
      clear h
      go_enter Tryd.func27, Tryd.ntmps27
      go_wp2_with fail
      go_ret
      exact ⟨by rw [HE.out] <;> rfl, rfl⟩
end Go.Proofs.YtgckfilmhnapeaaDoor
