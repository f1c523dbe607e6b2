/- Plain side of DecimalCompares: the program's size and the reference's give the same. -/
import Derived.Laws.RangeString
import Derived.Lib.TrimByte
import Derived.Lib.Bytealg
import Derived.Lib.Small
import Derived.Test.YtgckfilmhnapeaaDoorRows
import Derived.Test.YtgckfilmhnapeaaDoorMem
import Derived.Test.YtgckfilmhnapeaaDoorShelf
import Derived.Lib.OthersKept
import Derived.WalkKit
import Derived.WalkLawsBesides
import Derived.WalkSpells
import Derived.ProofKit
import Derived.Outline
import Derived.Lib.Hide
import Derived.Deep.QuietTactic
import Derived.BigQuiet
import Derived.StillTailTactics
namespace Go.Proofs.YtgckfilmhnapeaaDoor
def sgn (x : Int) : Int := if x < 0 then -1 else if 0 < x then 1 else 0
/-- decimal.size where the first Point is not the greater one; c: the digits against each other -/
def sizeUp (p : Int) (n : Nat) (q : Int) (m : Nat) (c : Int) : Int :=
  if 1099511627776 < q - p then -1 else if sgn ((m : Int) - n - (q - p)) ≠ 0 then sgn ((m : Int) - n - (q - p)) else c
def sizeP (p : Int) (n : Nat) (q : Int) (m : Nat) (c : Int) : Int := if q < p then - sizeUp q m p n (-c) else sizeUp p n q m c
/-- crucibleref07.size; hp, hq: the halves of the Points, cut towards nought -/
def sizeR (p hp : Int) (n : Nat) (q hq : Int) (m : Nat) (c : Int) : Int :=
  if 1099511627776 < hp - hq then 1 else if hp - hq < -1099511627776 then -1
  else if p - q - n + m ≠ 0 then (if p - q - n + m < 0 then -1 else 1) else c
theorem size_law (p q hp hq : Int) (n m : Nat) (hn : n ≤ 1048576) (hm : m ≤ 1048576) (c : Int) (h1 : 2 * hp ≤ p + 1) (h2 : p - 1 ≤ 2 * hp) (h3 : 2 * hq ≤ q + 1) (h4 : q - 1 ≤ 2 * hq) :
    sizeP p n q m c = sizeR p hp n q hq m c := by
  unfold sizeP sizeR sizeUp sgn
  repeat' split
  all_goals omega
/-- the whole: signs first; s, t: is there a digit; nega, negb -/
def signN (neg some : Bool) : Int := if some = false then 0 else if neg = true then -1 else 1
def cmpP (na sa nb sb : Bool) (z : Int) : Int := if signN na sa ≠ signN nb sb ∨ signN na sa = 0 then sgn (signN na sa - signN nb sb) else signN na sa * z
def cmpR (na sa nb sb : Bool) (z : Int) : Int :=
  if sa = false ∧ sb = false then 0
  else if (sa = false ∧ nb = true) ∨ (sb = false ∧ na = false) ∨ (sa = true ∧ sb = true ∧ na = false ∧ nb = true) then 1
  else if sa = false ∨ sb = false ∨ na ≠ nb then -1
  else if na = true then -z else z
theorem cmp_law (na sa nb sb : Bool) (z : Int) : cmpP na sa nb sb z = cmpR na sa nb sb z := by
  cases na <;> cases sa <;> cases nb <;> cases sb <;> simp [cmpP, cmpR, signN, sgn]
end Go.Proofs.YtgckfilmhnapeaaDoor

namespace Go.Proofs.YtgckfilmhnapeaaDoor
theorem decode_hi (s : ByteArray) (i : Nat) (h : 128 ≤ (s.get! (i + 0)).toNat) : 128 ≤ (Utf8.decode s i).1 := by
  unfold Utf8.decode
  simp only []
  rw [if_neg (by omega)]
  split
  · split
    · rename_i h1; exact h1
    · decide
  split
  · split
    · rename_i h1
      simp only [Bool.and_eq_true, decide_eq_true_eq] at h1
      omega
    · decide
  split
  · split
    · rename_i h1
      simp only [Bool.and_eq_true, decide_eq_true_eq] at h1
      omega
    · decide
  · decide
end Go.Proofs.YtgckfilmhnapeaaDoor

namespace Go.Proofs.YtgckfilmhnapeaaDoor
open Go.Lib

def dgB (c : UInt8) : Bool := decide (48 ≤ c.toNat) && decide (c.toNat ≤ 57)
def fineL (l : List UInt8) : Bool := l.all dgB
def fineB (s : ByteArray) : Bool := fineL s.data.toList
def plainL (l : List UInt8) : List UInt8 := trimRightB (trimLeftB l 48) 48
def plainS (s : ByteArray) : ByteArray := ⟨(plainL s.data.toList).toArray⟩
def leadL (l : List UInt8) : Nat := l.length - (trimLeftB l 48).length

theorem fine_take_zero (l : List UInt8) : fineL (l.take 0) = true := rfl
theorem fine_take_succ (l : List UInt8) (k : Nat) (h : k < l.length) (h1 : fineL (l.take k) = true) (h2 : 48 ≤ (l[k]).toNat) (h3 : (l[k]).toNat ≤ 57) : fineL (l.take (k + 1)) = true := by
  unfold fineL at *
  rw [List.take_succ_eq_append_getElem h, List.all_append, h1]
  simp [dgB, h2, h3]
theorem fine_no (l : List UInt8) (k : Nat) (h : k < l.length) (h2 : (l[k]).toNat < 48 ∨ 57 < (l[k]).toNat) : fineL l = false := by
  unfold fineL
  rw [List.all_eq_false]
  refine ⟨l[k], List.getElem_mem h, ?_⟩
  unfold dgB
  rcases h2 with h2 | h2
  · rw [decide_eq_false (show ¬ 48 ≤ (l[k]).toNat by omega)]; simp
  · rw [decide_eq_false (show ¬ (l[k]).toNat ≤ 57 by omega)]; simp
theorem fine_full (l : List UInt8) (h : fineL (l.take l.length) = true) : fineL l = true := by rwa [List.take_length] at h

theorem trimLeft_len (l : List UInt8) : (trimLeftB l 48).length ≤ l.length := by
  unfold trimLeftB
  exact (List.dropWhile_sublist _).length_le
theorem trimRight_len (l : List UInt8) : (trimRightB l 48).length ≤ l.length := by
  unfold trimRightB
  rw [List.length_reverse]
  have := (List.dropWhile_sublist (p := (· == (48 : UInt8))) (l := l.reverse)).length_le
  rw [List.length_reverse] at this
  exact this
theorem plain_len (l : List UInt8) : (plainL l).length ≤ l.length := Nat.le_trans (trimRight_len _) (trimLeft_len _)
theorem lead_le (l : List UInt8) : leadL l ≤ l.length := Nat.sub_le _ _
theorem plainS_size (s : ByteArray) : (plainS s).size ≤ s.size := by
  unfold plainS
  rw [size_mk]
  have := plain_len s.data.toList
  have e : s.data.toList.length = s.size := by rw [Array.length_toList]; rfl
  omega

/-- the walk by hand: n noughts ahead, from place m on noughts alone -/
theorem plain_of (s : ByteArray) (n m : Nat) (hn : n ≤ m) (hm : m ≤ s.size) (h1 : ∀ j, (h : j < s.size) → j < n → s[j] = 48) (h2 : (h : n < s.size) → s[n] ≠ 48)
    (h3 : ∀ j, (h : j < s.size) → m ≤ j → s[j] = 48) (h4 : n < m → (h : m - 1 < s.size) → s[m - 1] ≠ 48) :
    s.extract n m = plainS s ∧ leadL s.data.toList = n := by
  have e : s.data.toList.length = s.size := by rw [Array.length_toList]; rfl
  have gt : ∀ (j : Nat) (h : j < s.size), s.data.toList[j]? = some s[j] := fun j h => by
    rw [List.getElem?_eq_getElem (by omega)]; rfl
  have tl : trimLeftB s.data.toList 48 = s.data.toList.drop n := by
    refine trimLeftB_drop _ 48 n (by omega) (fun j b hj hb => ?_) (fun b hb => ?_)
    · rw [gt j (by omega)] at hb
      injection hb with hb
      rw [← hb]; exact h1 j (by omega) hj
    · have hlt : n < s.size := by
        have := (List.getElem?_eq_some_iff.1 hb).1
        omega
      rw [gt n hlt] at hb
      injection hb with hb
      rw [← hb]; exact h2 hlt
  refine ⟨?_, by unfold leadL; rw [tl, List.length_drop]; omega⟩
  unfold plainS plainL
  rw [tl, trimRightB_take _ 48 (m - n) (by rw [List.length_drop]; omega) (fun j b hj hb => ?_) (fun b h0 hb => ?_)]
  · rw [extract_eq]
  · rw [List.getElem?_drop] at hb
    have hlt : n + j < s.size := by
      have := (List.getElem?_eq_some_iff.1 hb).1
      omega
    rw [gt _ hlt] at hb
    injection hb with hb
    rw [← hb]; exact h3 _ hlt (by omega)
  · rw [List.getElem?_drop] at hb
    have hlt : n + (m - n - 1) < s.size := by
      have := (List.getElem?_eq_some_iff.1 hb).1
      omega
    rw [gt _ hlt] at hb
    injection hb with hb
    have e2 : n + (m - n - 1) = m - 1 := by omega
    rw [← hb]
    have := h4 (by omega) (by omega)
    simpa only [e2] using this

/-- the digits against each other, as the reference asks it -/
theorem compare_ref (a b : List UInt8) : compareBytes a b = (if a = b then 0 else if a < b then -1 else 1) := by
  induction a generalizing b with
  | nil => cases b with
    | nil => rfl
    | cons y b => simp [compareBytes]
  | cons x a ih =>
    cases b with
    | nil => simp [compareBytes]
    | cons y b =>
      unfold compareBytes
      rw [ih b]
      by_cases h1 : x < y
      · rw [if_pos h1, if_neg (by rintro h; injection h with h _; subst h; exact absurd h1 (UInt8.lt_irrefl _)), if_pos (List.cons_lt_cons_iff.2 (.inl h1))]
      · rw [if_neg h1]
        by_cases h2 : y < x
        · rw [if_pos h2, if_neg (by rintro h; injection h with h _; subst h; exact absurd h2 (UInt8.lt_irrefl _)), if_neg]
          rw [List.cons_lt_cons_iff]
          rintro (h | ⟨h, -⟩)
          · exact absurd h h1
          · subst h; exact absurd h2 (UInt8.lt_irrefl _)
        · obtain rfl : x = y := by
            rw [UInt8.lt_iff_toNat_lt] at h1 h2
            exact UInt8.toNat_inj.1 (by omega)
          rw [if_neg h2]
          simp
theorem compare_neg (a b : List UInt8) : compareBytes b a = - compareBytes a b := by
  induction a generalizing b with
  | nil => cases b <;> simp [compareBytes]
  | cons x a ih =>
    cases b with
    | nil => simp [compareBytes]
    | cons y b =>
      unfold compareBytes
      rw [ih b]
      by_cases h1 : x < y
      · have h2 : ¬ y < x := by rw [UInt8.lt_iff_toNat_lt] at *; omega
        rw [if_neg h2, if_pos h1, if_pos h1]; rfl
      · rw [if_neg h1]
        by_cases h2 : y < x
        · rw [if_pos h2, if_pos h2, if_neg h1]
        · rw [if_neg h2, if_neg h2, if_neg h1]
end Go.Proofs.YtgckfilmhnapeaaDoor

namespace Go.Proofs.YtgckfilmhnapeaaDoor
open Go.RowKit Go.Lib
set_option linter.unusedVariables false

def iterPos (w : World) (b : Nat) : Nat := match w.heap[b]? with
  | some (.stringIter _ p) => p
  | _ => 0
theorem iterPos_of {w : World} {b : Nat} {s : ByteArray} {p : Nat} (h : w.heap[b]? = some (.stringIter s p)) : iterPos w b = p := by unfold iterPos; rw [h]

theorem get_bang (s : ByteArray) (k : Nat) (h : k < s.size) : s.get! k = s[k] := by
  show s.data[k]! = s.data[k]'h
  exact getElem!_pos s.data k h

def FineRel (s : ByteArray) (w : World) (wr : World) : Prop :=
  ∃ k : Nat, k ≤ s.size ∧ wr.heap[w.heap.size + 1]? = some (.stringIter s k) ∧ fineL (s.data.toList.take k) = true ∧ Below w.heap.size w wr ∧ w.heap.size + 1 < wr.heap.size
theorem bytes_len (s : ByteArray) : s.data.toList.length = s.size := by rw [Array.length_toList]; rfl
theorem bytes_at (s : ByteArray) (k : Nat) (h : k < s.size) : s.data.toList[k]'(by rw [bytes_len]; exact h) = s[k] := rfl

set_option maxRecDepth 100000 in
set_option maxHeartbeats 1500000 in
theorem fine_any (neg : Bool) (s : ByteArray) (p : Int) (w : World) :
    Calls Tryd.prog 25 #[.agg #[.bool neg, .string s, .int .i64 p]] w fun e w' => e = .returned (.bool (fineB s)) ∧ Below w.heap.size w w' := by
  go_enter Tryd.func25, Tryd.ntmps25
  go_wp2_with fail
  generalize hw1 : w.alloc (.cells #[.bool neg, .string s, .int .i64 p] 23) = w1
  have hz : w1.heap.size = w.heap.size + 1 := by rw [← hw1]; simp
  have hbel : Below w.heap.size w w1 := by rw [← hw1]; exact (Below.refl _ _).alloc (Nat.le_refl _) _
  have HZ := Lib.hid hz
  have HB := Lib.hid hbel
  clear hz hbel hw1
  go_loopw [4] (fun _ wr => FineRel s w wr) (fun _ wr => s.size - iterPos wr (w.heap.size + 1))
  case atStart =>
    refine ⟨0, Nat.zero_le _, ?_, rfl, (HB.out).alloc (by rw [HZ.out]; omega) _, by have := HZ.out; simp [World.iter]; omega⟩
    rw [← HZ.out]; exact World.iter_heap w1 s 0
  case round =>
    obtain ⟨k, hk, hit, hf, hb, hs⟩ := hrel
    have HK := Lib.hid hit
    have HF := Lib.hid hf
    have HB2 := Lib.hid hb
    have HS := Lib.hid hs
    clear hit hf hb hs
    by_cases hlt : k < s.size
    · by_cases ha : (s[k]).toNat < 128
      · have hnx := fun ty => run_next_ascii_at (P := Tryd.prog) wr (w.heap.size + 1) s k ty HK.out hlt ha
        have HI : Hid ((wr.iterAt (w.heap.size + 1) s (k + 1)).heap[w.heap.size + 1]? = some (.stringIter s (k + 1))) := Lib.hid (Lib.iterAt_heap _ _ _ _ _ HK.out)
        have HB3 : Hid (Below w.heap.size w (wr.iterAt (w.heap.size + 1) s (k + 1))) := Lib.hid (Lib.below_iterAt HB2.out (by omega) _ _)
        by_cases h1 : (s[k]).toNat < 48
        · have h1' : ((s[k]).toNat : Int) < 48 := by omega
          have HN : Hid (fineB s = false) := Lib.hid (fine_no s.data.toList k (by rw [bytes_len]; exact hlt) (.inl h1))
          generalize (s[k]).toNat = c at *
          clear hlt ha h1
          go_wp2_with fail
          go_ret
          exact ⟨by rw [HN.out] <;> rfl, HB3.out⟩
        · have h1' : ¬ ((s[k]).toNat : Int) < 48 := by omega
          by_cases h2 : 57 < (s[k]).toNat
          · have h2' : 57 < ((s[k]).toNat : Int) := by omega
            have HN : Hid (fineB s = false) := Lib.hid (fine_no s.data.toList k (by rw [bytes_len]; exact hlt) (.inr h2))
            generalize (s[k]).toNat = c at *
            clear hlt ha h1 h2
            go_wp2_with fail
            go_ret
            exact ⟨by rw [HN.out] <;> rfl, HB3.out⟩
          · have h2' : ¬ 57 < ((s[k]).toNat : Int) := by omega
            have HN : Hid (fineL (s.data.toList.take (k + 1)) = true) := Lib.hid (fine_take_succ s.data.toList k (by rw [bytes_len]; exact hlt) HF.out (by rw [bytes_at s k hlt]; omega) (by rw [bytes_at s k hlt]; omega))
            have HL := Lib.hid hlt
            have hzz : (wr.iterAt (w.heap.size + 1) s (k + 1)).heap.size = wr.heap.size := by simp [World.iterAt]
            have HZZ := Lib.hid hzz
            generalize (s[k]).toNat = c at *
            clear hlt ha h1 h2 hzz
            go_wp2_with fail
            go_roundw
            case rel => exact ⟨k + 1, HL.out, HI.out, HN.out, HB3.out, by rw [HZZ.out]; exact HS.out⟩
            case measure => rw [iterPos_of HI.out, iterPos_of HK.out]; have := HL.out; omega
      · have hnx := fun ty => run_next_any_at (P := Tryd.prog) wr (w.heap.size + 1) s k ty HK.out hlt
        have hd : 128 ≤ (Utf8.decode s k).1 := decode_hi s k (by rw [Nat.add_zero, get_bang s k hlt]; omega)
        have HB3 : Hid (Below w.heap.size w (wr.iterAt (w.heap.size + 1) s (k + (Utf8.decode s k).2))) := Lib.hid (Lib.below_iterAt HB2.out (by omega) _ _)
        have HN : Hid (fineB s = false) := Lib.hid (fine_no s.data.toList k (by rw [bytes_len]; exact hlt) (.inr (by rw [bytes_at s k hlt]; omega)))
        generalize (Utf8.decode s k).1 = r at *
        generalize k + (Utf8.decode s k).2 = k2 at *
        have h1' : ¬ (r : Int) < 48 := by omega
        have h2' : 57 < (r : Int) := by omega
        clear hlt ha hd
        go_wp2_with fail
        go_ret
        exact ⟨by rw [HN.out] <;> rfl, HB3.out⟩
    · obtain rfl : k = s.size := by omega
      have hnx := fun ty => run_next_end_at (P := Tryd.prog) wr (w.heap.size + 1) s s.size ty HK.out (Nat.lt_irrefl _)
      have HN : Hid (fineB s = true) := Lib.hid (by have h := HF.out; rw [← bytes_len] at h; exact fine_full _ h)
      clear hlt hk
      go_wp2_with fail
      go_ret
      exact ⟨by rw [HN.out] <;> rfl, HB2.out⟩

theorem tupS {x : ByteArray} {a b : Int} (h : a = b) : Ending.returned (.tuple #[.string x, .int .i64 a]) = .returned (.tuple #[.string x, .int .i64 b]) := by rw [h]
set_option maxRecDepth 100000 in
theorem plain_any (s : ByteArray) (w : World) (hs : s.size ≤ 9223372036854775807) :
    Calls Tryd.prog 26 #[.string s] w fun e w' => e = .returned (.tuple #[.string (plainS s), .int .i64 (leadL s.data.toList : Nat)]) ∧ w' = w := by
  have hl := trimLeft_len s.data.toList
  rw [bytes_len] at hl
  have H1 := Lib.hid (Tryd.strings_TrimLeft_one s 48 (by decide) w)
  have hsz : (⟨(trimLeftB s.data.toList 48).toArray⟩ : ByteArray).size = (trimLeftB s.data.toList 48).length := size_mk _
  have H2 := Lib.hid (Tryd.strings_TrimRight_one ⟨(trimLeftB s.data.toList 48).toArray⟩ 48 (by decide) w (by rw [hsz]; omega))
  have HE : Hid ((s.size : Int) - ((trimLeftB s.data.toList 48).length : Int) = (leadL s.data.toList : Nat)) := Lib.hid (by unfold leadL; rw [bytes_len]; omega)
  have HP : Hid ((⟨(trimRightB (⟨(trimLeftB s.data.toList 48).toArray⟩ : ByteArray).data.toList 48).toArray⟩ : ByteArray) = plainS s) := Lib.hid rfl
  have hz : (⟨(trimLeftB s.data.toList 48).toArray⟩ : ByteArray).size ≤ s.size := by rw [hsz]; exact hl
  rw [← hsz] at HE
  rw [HP.out] at H2
  generalize (⟨(trimLeftB s.data.toList 48).toArray⟩ : ByteArray) = t at *
  generalize plainS s = u at *
  generalize leadL s.data.toList = n at *
  clear hsz hl HP
  go_enter Tryd.func26, Tryd.ntmps26
  go_wp2_with fail
  refine H1.out.mono ?_
  rintro e w' ⟨rfl, rfl⟩
  go_wp2_with fail
  refine H2.out.mono ?_
  rintro e w' ⟨rfl, rfl⟩
  go_wp2_with fail
  go_ret2
  exact ⟨tupS HE.out, rfl⟩

def sgnS (neg : Bool) (s : ByteArray) : Int := if s.data.toList = [] then 0 else if neg = true then -1 else 1
set_option maxRecDepth 100000 in
theorem sign_any (neg : Bool) (s : ByteArray) (w : World) :
    Calls Tryd.prog 27 #[.bool neg, .string s] w fun e w' => e = .returned (.int .i64 (sgnS neg s)) ∧ w = w' := by
  by_cases h : s.data.toList = []
  · have HE : Hid (sgnS neg s = 0) := Lib.hid (by unfold sgnS; rw [if_pos h])
    have h1 : s.toList = [] := by rw [Lib.toList_data]; exact h
    clear h
    go_enter Tryd.func27, Tryd.ntmps27
    go_wp2_with fail
    go_ret
    exact ⟨by rw [HE.out] <;> rfl, rfl⟩
  · have h1 : s.toList.isEmpty = false := by rw [Lib.toList_data]; simpa using h
    cases neg
    · have HE : Hid (sgnS false s = 1) := Lib.hid (by unfold sgnS; rw [if_neg h]; rfl)
      clear h
      go_enter Tryd.func27, Tryd.ntmps27
      go_wp2_with fail
      go_ret
      exact ⟨by rw [HE.out] <;> rfl, rfl⟩
    · have HE : Hid (sgnS true s = -1) := Lib.hid (by unfold sgnS; rw [if_neg h]; rfl)
      clear h
      go_enter Tryd.func27, Tryd.ntmps27
      go_wp2_with fail
      go_ret
      exact ⟨by rw [HE.out] <;> rfl, rfl⟩
end Go.Proofs.YtgckfilmhnapeaaDoor

namespace Go.Proofs.YtgckfilmhnapeaaDoor
open Go.RowKit Go.Lib
set_option linter.unusedVariables false

theorem compareInt_sgn (x y : Int) : compareInt x y = sgn (x - y) := by
  unfold compareInt sgn
  repeat' split
  all_goals omega
theorem compareB_cases (a b : List UInt8) : compareBytes a b = -1 ∨ compareBytes a b = 0 ∨ compareBytes a b = 1 := by
  rw [compare_ref]
  split
  · exact .inr (.inl rfl)
  · split
    · exact .inl rfl
    · exact .inr (.inr rfl)
theorem sizeUp_cases (p : Int) (n : Nat) (q : Int) (m : Nat) (c : Int) (hc : c = -1 ∨ c = 0 ∨ c = 1) : sizeUp p n q m c = -1 ∨ sizeUp p n q m c = 0 ∨ sizeUp p n q m c = 1 := by
  unfold sizeUp sgn
  repeat' split
  all_goals first | omega | simp_all

def cmpStr (s t : ByteArray) : Int := compareBytes s.data.toList t.data.toList
theorem cmpStr_cases (s t : ByteArray) : cmpStr s t = -1 ∨ cmpStr s t = 0 ∨ cmpStr s t = 1 := compareB_cases _ _
theorem cmpStr_neg (s t : ByteArray) : cmpStr t s = - cmpStr s t := compare_neg _ _

theorem wrap_gap (p q : Int) (h1 : -9223372036854775808 ≤ p) (h2 : q ≤ 9223372036854775807) (h : p ≤ q) : IntKind.u64.wrap (IntKind.u64.wrap q - IntKind.u64.wrap p) = q - p := by
  simp only [IntKind.wrap]
  simp [IntKind.signed, IntKind.bits]
  omega

set_option maxRecDepth 100000 in
set_option maxHeartbeats 1500000 in
theorem size_up (s t : ByteArray) (p q : Int) (n m : Nat) (w : World) (h1 : -9223372036854775808 ≤ p) (h2 : q ≤ 9223372036854775807) (h : p ≤ q) (hn : n ≤ 140737488355328) (hm : m ≤ 140737488355328) :
    Calls Tryd.prog 29 #[.string s, .int .i64 p, .int .i64 n, .string t, .int .i64 q, .int .i64 m] w fun e w' => e = .returned (.int .i64 (sizeUp p n q m (cmpStr s t))) ∧ w = w' := by
  have hng : ¬ q < p := by omega
  have hg := wrap_gap p q h1 h2 h
  have hg0 : 0 ≤ q - p := by omega
  have hS := Lib.hid (Tryd.strings_Compare s t w)
  obtain ⟨d, hd⟩ : ∃ d, q - p = d := ⟨_, rfl⟩
  by_cases hbig : 1099511627776 < d
  · have HE : Hid (sizeUp p n q m (cmpStr s t) = -1) := Lib.hid (by unfold sizeUp; rw [hd, if_pos hbig])
    rw [hd] at hg
    clear h hd hg0 hn hm
    go_enter Tryd.func29, Tryd.ntmps29
    go_wp2_with fail
    go_ret
    exact ⟨by rw [HE.out] <;> rfl, rfl⟩
  · have HC := Lib.hid (Tryd.cmp_Compare_int ((m : Int) - n) d w)
    have hdb : d ≤ 1099511627776 := by omega
    have hd0 : 0 ≤ d := by omega
    have he : sizeUp p n q m (cmpStr s t) = if compareInt ((m : Int) - n) d ≠ 0 then compareInt ((m : Int) - n) d else cmpStr s t := by
      unfold sizeUp
      rw [hd, if_neg hbig, compareInt_sgn]
    rw [hd] at hg
    obtain ⟨c, hc⟩ : ∃ c, compareInt ((m : Int) - n) d = c := ⟨_, rfl⟩
    rw [hc] at he HC
    have HE := Lib.hid he
    clear h hd hg0 he hc h1 h2
    by_cases hc0 : c = 0
    · subst hc0
      go_enter Tryd.func29, Tryd.ntmps29
      go_wp2_with fail
      refine HC.out.mono ?_
      rintro e w' ⟨rfl, rfl⟩
      go_wp2_with fail
      refine hS.out.mono ?_
      rintro e w' ⟨rfl, rfl⟩
      go_wp2_with fail
      go_ret
      exact ⟨by rw [HE.out, if_neg (by simp)]; rfl, rfl⟩
    · have hcb : (c != 0) = true := by simpa using hc0
      have HN := Lib.hid hc0
      clear hc0
      go_enter Tryd.func29, Tryd.ntmps29
      go_wp2_with fail
      refine HC.out.mono ?_
      rintro e w' ⟨rfl, rfl⟩
      go_wp2_with fail
      go_ret
      exact ⟨by rw [HE.out, if_pos HN.out] <;> rfl, rfl⟩

set_option maxRecDepth 100000 in
set_option maxHeartbeats 1500000 in
theorem size_any (s t : ByteArray) (p q : Int) (n m : Nat) (w : World) (h1 : -9223372036854775808 ≤ p) (h2 : q ≤ 9223372036854775807) (h3 : -9223372036854775808 ≤ q) (h4 : p ≤ 9223372036854775807) (hn : n ≤ 140737488355328) (hm : m ≤ 140737488355328) :
    Calls Tryd.prog 29 #[.string s, .int .i64 p, .int .i64 n, .string t, .int .i64 q, .int .i64 m] w fun e w' => e = .returned (.int .i64 (sizeP p n q m (cmpStr s t))) ∧ w = w' := by
  by_cases h : q < p
  · have HS := Lib.hid (size_up t s q p m n w h3 h4 (by omega) hm hn)
    have hz := sizeUp_cases q m p n (cmpStr t s) (cmpStr_cases t s)
    have HE : Hid (sizeP p n q m (cmpStr s t) = - sizeUp q m p n (cmpStr t s)) := Lib.hid (by unfold sizeP; rw [if_pos h, ← cmpStr_neg s t])
    obtain ⟨z, hzz⟩ : ∃ z, sizeUp q m p n (cmpStr t s) = z := ⟨_, rfl⟩
    rw [hzz] at HS hz HE
    clear hzz h1 h2 h3 h4 hn hm
    have hz1 : -1 ≤ z := by omega
    have hz2 : z ≤ 1 := by omega
    clear hz
    go_enter Tryd.func29, Tryd.ntmps29
    go_wp2_with fail
    refine HS.out.mono ?_
    rintro e w' ⟨rfl, rfl⟩
    go_wp2_with fail
    go_ret
    exact ⟨by rw [HE.out] <;> rfl, rfl⟩
  · have he : sizeP p n q m (cmpStr s t) = sizeUp p n q m (cmpStr s t) := by unfold sizeP; rw [if_neg h]
    rw [he]
    exact size_up s t p q n m w h1 h2 (by omega) hn hm

/-- is there a digit that is not 0? -/
def smB (s : ByteArray) : Bool := !((plainS s).data.toList.isEmpty)
theorem sgnS_signN (neg : Bool) (s : ByteArray) : sgnS neg (plainS s) = signN neg (smB s) := by
  unfold sgnS signN smB
  by_cases h : (plainS s).data.toList = []
  · rw [if_pos h, h]; rfl
  · have h' : (plainS s).data.toList.isEmpty = false := by simpa using h
    rw [if_neg h, h']; cases neg <;> rfl
def szP (a b : ByteArray) (p q : Int) : Int := sizeP p (leadL a.data.toList) q (leadL b.data.toList) (cmpStr (plainS a) (plainS b))
def bothB (a b : ByteArray) : Bool := fineB a && fineB b
/-- what decimal.Cmp answers -/
def cmpV (na : Bool) (a : ByteArray) (p : Int) (nb : Bool) (b : ByteArray) (q : Int) : Int :=
  if bothB a b = true then cmpP na (smB a) nb (smB b) (szP a b p q) else 0
theorem sizeP_cases (p : Int) (n : Nat) (q : Int) (m : Nat) (c : Int) (hc : c = -1 ∨ c = 0 ∨ c = 1) : sizeP p n q m c = -1 ∨ sizeP p n q m c = 0 ∨ sizeP p n q m c = 1 := by
  unfold sizeP
  split
  · have := sizeUp_cases q m p n (-c) (by omega); omega
  · exact sizeUp_cases p n q m c hc
theorem szP_cases (a b : ByteArray) (p q : Int) : szP a b p q = -1 ∨ szP a b p q = 0 ∨ szP a b p q = 1 := sizeP_cases _ _ _ _ _ (cmpStr_cases _ _)
theorem signN_cases (n s : Bool) : signN n s = -1 ∨ signN n s = 0 ∨ signN n s = 1 := by cases n <;> cases s <;> simp [signN]

theorem tup2 {a b : Int} {c d : Bool} (h : a = b) (h2 : c = d) : Ending.returned (.tuple #[.int .i64 a, .bool c]) = .returned (.tuple #[.int .i64 b, .bool d]) := by rw [h, h2]
/-- two decimal numbers as values lie in two new blocks -/
structure Two (w : World) (na nb : Bool) (a b : ByteArray) (p q : Int) (wx : World) : Prop where
  one : Blk wx w.heap.size 23 #[.bool na, .string a, .int .i64 p]
  two : Blk wx (w.heap.size + 1) 23 #[.bool nb, .string b, .int .i64 q]
  bel : Below w.heap.size w wx
def W2 (w : World) (na nb : Bool) (a b : ByteArray) (p q : Int) : World := (w.alloc (.cells #[.bool na, .string a, .int .i64 p] 23)).alloc (.cells #[.bool nb, .string b, .int .i64 q] 23)
theorem two_new (w : World) (na nb : Bool) (a b : ByteArray) (p q : Int) : Two w na nb a b p q (W2 w na nb a b p q) := by
  refine ⟨(Blk.new w _ _).alloc _, ?_, ((Below.refl _ _).alloc (Nat.le_refl _) _).alloc (by simp) _⟩
  have h := Blk.new (w.alloc (.cells #[.bool na, .string a, .int .i64 p] 23)) 23 #[.bool nb, .string b, .int .i64 q]
  rw [show (w.alloc (.cells #[.bool na, .string a, .int .i64 p] 23)).heap.size = w.heap.size + 1 by simp] at h
  exact h
theorem Two.below {w : World} {na nb : Bool} {a b : ByteArray} {p q : Int} {wx wy : World} (h : Two w na nb a b p q wx) (hb : Below wx.heap.size wx wy) : Two w na nb a b p q wy :=
  ⟨h.one.below hb h.one.lt, h.two.below hb h.two.lt, h.bel.trans (hb.mono (Nat.le_of_lt h.one.lt))⟩
theorem Two.drewN {w : World} {na nb : Bool} {a b : ByteArray} {p q : Int} {wx : World} (h : Two w na nb a b p q wx) (n : Nat) : Two w na nb a b p q (wx.drewN n) :=
  ⟨h.one.drewN n, h.two.drewN n, below_drewN' h.bel n⟩
theorem Two.cells {w : World} {na nb : Bool} {a b : ByteArray} {p q : Int} {wx : World} (h : Two w na nb a b p q wx) :
    wx.cell? ⟨w.heap.size, 0, none⟩ = some (.bool na) ∧ wx.cell? ⟨w.heap.size, 1, none⟩ = some (.string a) ∧ wx.cell? ⟨w.heap.size, 2, none⟩ = some (.int .i64 p) ∧
    wx.cell? ⟨w.heap.size + 1, 0, none⟩ = some (.bool nb) ∧ wx.cell? ⟨w.heap.size + 1, 1, none⟩ = some (.string b) ∧ wx.cell? ⟨w.heap.size + 1, 2, none⟩ = some (.int .i64 q) :=
  ⟨h.one.cell 0, h.one.cell 1, h.one.cell 2, h.two.cell 0, h.two.cell 1, h.two.cell 2⟩

set_option maxRecDepth 100000 in
set_option maxHeartbeats 3000000 in
theorem dcmp_any (na nb : Bool) (a b : ByteArray) (p q : Int) (w : World) (h1 : -9223372036854775808 ≤ p) (h2 : q ≤ 9223372036854775807) (h3 : -9223372036854775808 ≤ q) (h4 : p ≤ 9223372036854775807) (hn : a.size ≤ 140737488355328) (hm : b.size ≤ 140737488355328) :
    Calls Tryd.prog 10 #[.agg #[.bool na, .string a, .int .i64 p], .agg #[.bool nb, .string b, .int .i64 q]] w fun e w' =>
      e = .returned (.tuple #[.int .i64 (cmpV na a p nb b q), .bool (bothB a b)]) ∧ Below w.heap.size w w' := by
  have HFA := Lib.hid (fun wx => fine_any na a p wx)
  have HFB := Lib.hid (fun wx => fine_any nb b q wx)
  have hla : leadL a.data.toList ≤ 140737488355328 := Nat.le_trans (lead_le _) (by rw [bytes_len]; exact hn)
  have hlb : leadL b.data.toList ≤ 140737488355328 := Nat.le_trans (lead_le _) (by rw [bytes_len]; exact hm)
  have HPA := Lib.hid (fun wx => plain_any a wx (by omega))
  have HPB := Lib.hid (fun wx => plain_any b wx (by omega))
  have HSA := Lib.hid (fun wx => sign_any na (plainS a) wx)
  have HSB := Lib.hid (fun wx => sign_any nb (plainS b) wx)
  have HZ := Lib.hid (fun wx => size_any (plainS a) (plainS b) p q (leadL a.data.toList) (leadL b.data.toList) wx h1 h2 h3 h4 hla hlb)
  rw [sgnS_signN] at HSA HSB
  have hzc := szP_cases a b p q
  change Hid (∀ wx, Calls Tryd.prog 29 #[.string (plainS a), .int .i64 p, .int .i64 (leadL a.data.toList : Nat), .string (plainS b), .int .i64 q, .int .i64 (leadL b.data.toList : Nat)] wx fun e w' => e = .returned (.int .i64 (szP a b p q)) ∧ wx = w') at HZ
  have HV : Hid (cmpV na a p nb b q = if (fineB a && fineB b) = true then (if signN na (smB a) ≠ signN nb (smB b) ∨ signN na (smB a) = 0 then sgn (signN na (smB a) - signN nb (smB b)) else signN na (smB a) * szP a b p q) else 0) := Lib.hid rfl
  have HW : Hid (bothB a b = (fineB a && fineB b)) := Lib.hid rfl
  have hx := signN_cases na (smB a)
  have hy := signN_cases nb (smB b)
  generalize signN na (smB a) = X at *
  generalize signN nb (smB b) = Y at *
  generalize szP a b p q = Z at *
  generalize plainS a = S at *
  generalize plainS b = T at *
  generalize leadL a.data.toList = n at *
  generalize leadL b.data.toList = m at *
  generalize fineB a = fa at *
  generalize fineB b = fb at *
  clear h1 h2 h3 h4 hn hm hla hlb
  have hz1 : -1 ≤ Z := by omega
  have hz2 : Z ≤ 1 := by omega
  clear hzc
  have T0 := two_new w na nb a b p q
  have HW0 : Hid (W2 w na nb a b p q = (w.alloc (.cells #[.bool na, .string a, .int .i64 p] 23)).alloc (.cells #[.bool nb, .string b, .int .i64 q] 23)) := Lib.hid rfl
  generalize W2 w na nb a b p q = W0 at *
  have HT0 := Lib.hid T0
  obtain ⟨c0, c1, c2, d0, d1, d2⟩ := T0.cells
  clear T0
  cases fa
  · have HV1 : Hid (cmpV na a p nb b q = 0) := Lib.hid (by rw [HV.out]; rfl)
    clear HV hx hy hz1 hz2
    go_enter Tryd.func10, Tryd.ntmps10
    go_wp2_with fail
    rw [← HW0.out]
    go_wp2_with fail
    refine (HFA.out _).mono ?_
    rintro e w1 ⟨rfl, hb1⟩
    have HT1 := Lib.hid (HT0.out.below hb1)
    clear hb1 c0 c1 c2 d0 d1 d2
    go_wp2_with fail
    go_ret2
    exact ⟨tup2 (by rw [HV1.out]) (by rw [HW.out]; rfl), HT1.out.bel⟩
  · cases fb
    · have HV1 : Hid (cmpV na a p nb b q = 0) := Lib.hid (by rw [HV.out]; rfl)
      clear HV hx hy hz1 hz2
      go_enter Tryd.func10, Tryd.ntmps10
      go_wp2_with fail
      rw [← HW0.out]
      go_wp2_with fail
      refine (HFA.out _).mono ?_
      rintro e w1 ⟨rfl, hb1⟩
      have HT1 := Lib.hid (HT0.out.below hb1)
      clear hb1 c0 c1 c2 d0 d1 d2
      obtain ⟨c0, c1, c2, d0, d1, d2⟩ := HT1.out.cells
      go_wp2_with fail
      refine (HFB.out _).mono ?_
      rintro e w2 ⟨rfl, hb2⟩
      have HT2 := Lib.hid (HT1.out.below hb2)
      clear hb2 c0 c1 c2 d0 d1 d2
      go_wp2_with fail
      go_ret2
      exact ⟨tup2 (by rw [HV1.out]) (by rw [HW.out]; rfl), HT2.out.bel⟩
    · have HV1 : Hid (cmpV na a p nb b q = if (X ≠ Y ∨ X = 0) then sgn (X - Y) else X * Z) := Lib.hid (by rw [HV.out]; rfl)
      have HC := Lib.hid (fun wx => Tryd.cmp_Compare_int X Y wx)
      clear HV
      rcases hx with rfl | rfl | rfl <;> rcases hy with rfl | rfl | rfl
      all_goals
        go_enter Tryd.func10, Tryd.ntmps10
        go_wp2_with fail
        rw [← HW0.out]
        go_wp2_with fail
        refine (HFA.out _).mono ?_
        rintro e w1 ⟨rfl, hb1⟩
        have HT1 := Lib.hid (HT0.out.below hb1)
        clear hb1 c0 c1 c2 d0 d1 d2
        obtain ⟨c0, c1, c2, d0, d1, d2⟩ := HT1.out.cells
        go_wp2_with fail
        refine (HFB.out _).mono ?_
        rintro e w2 ⟨rfl, hb2⟩
        have HT2 := Lib.hid (HT1.out.below hb2)
        clear hb2 c0 c1 c2 d0 d1 d2
        obtain ⟨c0, c1, c2, d0, d1, d2⟩ := HT2.out.cells
        go_wp2_with fail
        refine (HPA.out _).mono ?_
        rintro e w3 ⟨rfl, rfl⟩
        go_wp2_with fail
        refine (HPB.out _).mono ?_
        rintro e w4 ⟨rfl, rfl⟩
        go_wp2_with fail
        go_quiet ((go_at_call 27; first | (with_reducible exact quiet_same (HSA.out _)) | (with_reducible exact quiet_same (HSB.out _))))
        go_wp2_with fail
        first
          | ((with_reducible refine (HC.out _).mono ?_)
             rintro e w5 ⟨rfl, rfl⟩
             go_wp2_with fail
             go_ret2
             exact ⟨tup2 (by rw [HV1.out]; rfl) (by rw [HW.out]; rfl), (HT2.out.drewN _).bel⟩)
          | ((with_reducible refine (HZ.out _).mono ?_)
             rintro e w5 ⟨rfl, rfl⟩
             go_wp2_with fail
             go_ret2
             exact ⟨tup2 (by rw [HV1.out]; simp) (by rw [HW.out]; rfl), (HT2.out.drewN _).bel⟩)
end Go.Proofs.YtgckfilmhnapeaaDoor
