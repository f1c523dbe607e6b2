/- The plain words of quoting, and the contract of crucibleref10.Quote. -/
import Derived.Test.YtiignmjglihbnaaDoorIsText
import Derived.Laws.IdiomStrings
namespace Go.Proofs.YtiignmjglihbnaaDoor
open Go.RowKit

def hexd (n : Nat) : Nat := if n < 10 then 48 + n else 87 + n
/-- a byte as a literal has it -/
def escB (c : Nat) : List Nat :=
  if c = 34 then [92, 34] else if c = 92 then [92, 92] else if c = 8 then [92, 98] else if c = 9 then [92, 116] else if c = 10 then [92, 110]
  else if c = 12 then [92, 102] else if c = 13 then [92, 114] else if c < 32 then [92, 117, 48, 48, 48 + c / 16, hexd (c % 16)] else [c]
theorem escB_le (c : Nat) : (escB c).length ≤ 6 := by
  unfold escB
  repeat' split
  all_goals simp
/-- the literal of the first k bytes, but for the last quote -/
def outB (s : ByteArray) (k : Nat) : List Nat := 34 :: (List.range k).flatMap fun i => escB (bt s i)
theorem outB_zero (s : ByteArray) : outB s 0 = [34] := rfl
theorem outB_succ (s : ByteArray) (k : Nat) : outB s (k + 1) = outB s k ++ escB (bt s k) := by simp [outB, List.range_succ]
theorem outB_len (s : ByteArray) (k : Nat) : (outB s k).length ≤ 6 * k + 1 := by
  induction k with
  | zero => exact Nat.le_refl _
  | succ k ih => rw [outB_succ, List.length_append]; have := escB_le (bt s k); omega
/-- bytes as a string -/
def strOf (xs : List Nat) : ByteArray := ⟨(xs.map UInt8.ofNat).toArray⟩
def litB (s : ByteArray) : ByteArray := strOf (outB s s.size ++ [34])
theorem outB_lt (s : ByteArray) (k : Nat) (h : k ≤ s.size) : ∀ x ∈ outB s k, x < 256 := by
  induction k with
  | zero => intro x hx; simp [outB] at hx; omega
  | succ k ih =>
    intro x hx
    rw [outB_succ, List.mem_append] at hx
    rcases hx with hx | hx
    · exact ih (by omega) x hx
    · have hc := bt_lt (s := s) (i := k) (by omega)
      generalize bt s k = c at *
      unfold escB at hx
      have h16 : hexd (c % 16) < 256 := by unfold hexd; split <;> omega
      repeat' split at hx
      all_goals simp at hx
      all_goals omega

/-- a row of bytes as a string -/
theorem row_string {w : World} {base n : Nat} {e : TypeId} {A : Option Addr} {c : Nat} {xs : List Nat} (hx : ∀ x ∈ xs, x < 256) (hn : xs.length = n) (h : w.ownsRow base e 1 (.slice A n c) n (vals .u8 xs)) (h0 : 0 < n) :
    (convert 49 9 (.slice A n c)).run Tryd.prog w = .ok (.string (strOf xs)) w := by
  subst hn
  rcases h.2 with ⟨h1, h2⟩ | ⟨g, cap, cur, he, h1, h2, h3, _, h5, h6⟩
  · omega
  · obtain ⟨rfl, -, rfl⟩ := Value.slice.inj he
    have := run_convert_bytes_back (P := Tryd.prog) w 49 9 5 ⟨g, 0, none⟩ c (xs.map UInt8.ofNat) Tryd.underlying49 Tryd.underlying5 Tryd.underlying9 (by
      intro j hj
      rw [List.length_map] at hj
      have hu := vals_get .u8 xs j hj
      rw [← h6, List.getElem?_take_of_lt (by omega)] at hu
      have hc : w.cell? ((⟨g, 0, none⟩ : Addr).add j) = cur[j]? := by
        have : (⟨g, 0, none⟩ : Addr).add j = ⟨g, j, none⟩ := by
          unfold Addr.add
          by_cases q : j = 0
          · subst q; rfl
          · simp [q]
        rw [this]; exact cell_of_row w g j cur e (0, 0) h2
      rw [hc, ← Array.getElem?_toList, hu]
      have hl : xs[j] < 256 := hx _ (List.getElem_mem hj)
      simp [hj]
      omega)
    rw [List.length_map] at this
    exact this

def QRel (w1 : World) (s : ByteArray) (v4 v5 : Value) (wr : World) : Prop :=
  ∃ k : Nat, k ≤ s.size ∧ v5 = .int .i64 k ∧ wr.ownsRow w1.heap.size 5 1 v4 (outB s k).length (vals .u8 (outB s k)) ∧ Below w1.heap.size w1 wr
def QuoteR (s : ByteArray) : ByteArray × Bool := if isTextB s = true then (litB s, true) else (⟨#[]⟩, false)

theorem hex_0 (w : World) : (Instr.index 9 (.string ⟨#[48, 49, 50, 51, 52, 53, 54, 55, 56, 57, 97, 98, 99, 100, 101, 102]⟩) (.int .u8 0)).run Tryd.prog w = .ok (.int .u8 48) w := by kernel_rfl
theorem hex_1 (w : World) : (Instr.index 9 (.string ⟨#[48, 49, 50, 51, 52, 53, 54, 55, 56, 57, 97, 98, 99, 100, 101, 102]⟩) (.int .u8 1)).run Tryd.prog w = .ok (.int .u8 49) w := by kernel_rfl
theorem hex_2 (w : World) : (Instr.index 9 (.string ⟨#[48, 49, 50, 51, 52, 53, 54, 55, 56, 57, 97, 98, 99, 100, 101, 102]⟩) (.int .u8 2)).run Tryd.prog w = .ok (.int .u8 50) w := by kernel_rfl
theorem hex_3 (w : World) : (Instr.index 9 (.string ⟨#[48, 49, 50, 51, 52, 53, 54, 55, 56, 57, 97, 98, 99, 100, 101, 102]⟩) (.int .u8 3)).run Tryd.prog w = .ok (.int .u8 51) w := by kernel_rfl
theorem hex_4 (w : World) : (Instr.index 9 (.string ⟨#[48, 49, 50, 51, 52, 53, 54, 55, 56, 57, 97, 98, 99, 100, 101, 102]⟩) (.int .u8 4)).run Tryd.prog w = .ok (.int .u8 52) w := by kernel_rfl
theorem hex_5 (w : World) : (Instr.index 9 (.string ⟨#[48, 49, 50, 51, 52, 53, 54, 55, 56, 57, 97, 98, 99, 100, 101, 102]⟩) (.int .u8 5)).run Tryd.prog w = .ok (.int .u8 53) w := by kernel_rfl
theorem hex_6 (w : World) : (Instr.index 9 (.string ⟨#[48, 49, 50, 51, 52, 53, 54, 55, 56, 57, 97, 98, 99, 100, 101, 102]⟩) (.int .u8 6)).run Tryd.prog w = .ok (.int .u8 54) w := by kernel_rfl
theorem hex_7 (w : World) : (Instr.index 9 (.string ⟨#[48, 49, 50, 51, 52, 53, 54, 55, 56, 57, 97, 98, 99, 100, 101, 102]⟩) (.int .u8 7)).run Tryd.prog w = .ok (.int .u8 55) w := by kernel_rfl
theorem hex_8 (w : World) : (Instr.index 9 (.string ⟨#[48, 49, 50, 51, 52, 53, 54, 55, 56, 57, 97, 98, 99, 100, 101, 102]⟩) (.int .u8 8)).run Tryd.prog w = .ok (.int .u8 56) w := by kernel_rfl
theorem hex_9 (w : World) : (Instr.index 9 (.string ⟨#[48, 49, 50, 51, 52, 53, 54, 55, 56, 57, 97, 98, 99, 100, 101, 102]⟩) (.int .u8 9)).run Tryd.prog w = .ok (.int .u8 57) w := by kernel_rfl
theorem hex_10 (w : World) : (Instr.index 9 (.string ⟨#[48, 49, 50, 51, 52, 53, 54, 55, 56, 57, 97, 98, 99, 100, 101, 102]⟩) (.int .u8 10)).run Tryd.prog w = .ok (.int .u8 97) w := by kernel_rfl
theorem hex_11 (w : World) : (Instr.index 9 (.string ⟨#[48, 49, 50, 51, 52, 53, 54, 55, 56, 57, 97, 98, 99, 100, 101, 102]⟩) (.int .u8 11)).run Tryd.prog w = .ok (.int .u8 98) w := by kernel_rfl
theorem hex_12 (w : World) : (Instr.index 9 (.string ⟨#[48, 49, 50, 51, 52, 53, 54, 55, 56, 57, 97, 98, 99, 100, 101, 102]⟩) (.int .u8 12)).run Tryd.prog w = .ok (.int .u8 99) w := by kernel_rfl
theorem hex_13 (w : World) : (Instr.index 9 (.string ⟨#[48, 49, 50, 51, 52, 53, 54, 55, 56, 57, 97, 98, 99, 100, 101, 102]⟩) (.int .u8 13)).run Tryd.prog w = .ok (.int .u8 100) w := by kernel_rfl
theorem hex_14 (w : World) : (Instr.index 9 (.string ⟨#[48, 49, 50, 51, 52, 53, 54, 55, 56, 57, 97, 98, 99, 100, 101, 102]⟩) (.int .u8 14)).run Tryd.prog w = .ok (.int .u8 101) w := by kernel_rfl
theorem hex_15 (w : World) : (Instr.index 9 (.string ⟨#[48, 49, 50, 51, 52, 53, 54, 55, 56, 57, 97, 98, 99, 100, 101, 102]⟩) (.int .u8 15)).run Tryd.prog w = .ok (.int .u8 102) w := by kernel_rfl
theorem hex_at (n : Nat) (h : n < 16) (w : World) : (Instr.index 9 (.string ⟨#[48, 49, 50, 51, 52, 53, 54, 55, 56, 57, 97, 98, 99, 100, 101, 102]⟩) (.int .u8 n)).run Tryd.prog w = .ok (.int .u8 (hexd n)) w := by
  have : n = 0 ∨ n = 1 ∨ n = 2 ∨ n = 3 ∨ n = 4 ∨ n = 5 ∨ n = 6 ∨ n = 7 ∨ n = 8 ∨ n = 9 ∨ n = 10 ∨ n = 11 ∨ n = 12 ∨ n = 13 ∨ n = 14 ∨ n = 15 := by omega
  rcases this with rfl | rfl | rfl | rfl | rfl | rfl | rfl | rfl | rfl | rfl | rfl | rfl | rfl | rfl | rfl | rfl
  · exact hex_0 w
  · exact hex_1 w
  · exact hex_2 w
  · exact hex_3 w
  · exact hex_4 w
  · exact hex_5 w
  · exact hex_6 w
  · exact hex_7 w
  · exact hex_8 w
  · exact hex_9 w
  · exact hex_10 w
  · exact hex_11 w
  · exact hex_12 w
  · exact hex_13 w
  · exact hex_14 w
  · exact hex_15 w


set_option maxRecDepth 100000 in
set_option maxHeartbeats 1500000 in
theorem rquote_yes (s : ByteArray) (hs : s.size ≤ 1048576) (ht : isTextB s = true) (w : World) :
    Calls Tryd.prog 11 #[.string s] w fun e w' => e = .returned (.tuple #[.string (litB s), .bool true]) ∧ Below w.heap.size w w' := by
  have HT := Lib.hid (isText_any s hs w)
  rw [ht] at HT
  obtain ⟨i0, hi, hz0, hz1, hz2⟩ := info_parts info_u8
  clear ht
  go_enter Tryd.func11, Tryd.ntmps11
  go_wp2_with fail
  refine HT.out.mono ?_
  rintro e w1 ⟨rfl, hb⟩
  have B1 := Lib.hid hb
  clear hb HT
  go_wp2_with fail
  go_loopw [4, 5] (fun v4 v5 wr => QRel w1 s v4 v5 wr) (fun _ v5 _ => s.size - (intOf v5).toNat)
  case atStart => exact ⟨0, Nat.zero_le _, rfl, World.ownsRow_lit (base := w1.heap.size) (e := 5) (size := 1) w1 #[.int .u8 34] 1 (Nat.le_refl _) (by decide) rfl, (Below.refl _ _).alloc (Nat.le_refl _) _⟩
  case round =>
    obtain ⟨k, hk, rfl, ho, hb⟩ := hrel
    have HO := Lib.hid ho
    have HB := Lib.hid hb
    clear ho hb
    have LL := Lib.hid (outB_len s k)
    have HSZ := Lib.hid hs
    by_cases hlt : k < s.size
    · have hc := bt_lt hlt
      have HE0 := outB_succ s k
      rw [bt_in hlt] at HE0 hc
      have k0 : 0 ≤ (k : Int) := by omega
      generalize hcc : s[k].toNat = c at *
      by_cases e34 : c = 34
      · subst e34
        have HE : Hid (outB s (k + 1) = outB s k ++ [92, 34]) := Lib.hid HE0
        clear HE0 hc
        have HP1 := Lib.hid (HO.out.alloc (.cells #[.int .u8 92, .int .u8 34] 5))
        go_wp2_with (at_builtin; refine wpList_append_own _ rfl _ _ 49 rfl w1.heap.size 5 i0 (.int .u8 0) 1 1 Tryd.underlying49 hi hz0 hz1 hz2 rfl (by decide) _ _ _ rfl HP1.out ⟨wr.heap.size, 0, none⟩ 2 2 [.int .u8 92, .int .u8 34] rfl rfl ?c1 ?c2 ?c3 ?c4 ?c5 ?_)
        (try case c1 => exact World.news_of_block (cs := #[.int .u8 92, .int .u8 34]) (heap_alloc_new _ _))
        case c2 => first | rfl | (intro u hu; simp at hu; rcases hu with rfl | rfl | rfl | rfl | rfl | rfl <;> rfl) | (intro u hu; simp at hu; rcases hu with rfl | rfl <;> rfl) | (intro u hu; simp at hu; subst hu; rfl) | (intro u hu; simp at hu; repeat' (rcases hu with rfl | hu); all_goals (first | rfl | (subst hu; rfl)))
        case c3 => unfold maxLen; have := LL.out; omega
        case c4 => have := LL.out; omega
        case c5 => have := HB.out.size; first | (simp; omega) | omega
        intro v2 w2 hown2 hg2 _
        have hb2 := (HB.out.alloc HB.out.size (.cells #[.int .u8 92, .int .u8 34] 5)).grown hg2 (by have := HB.out.size; simp; omega) (fun q hq => (HO.out.lt q hq).1)
        have HB2 := Lib.hid hb2
        have HO2 : Hid (w2.ownsRow w1.heap.size 5 1 v2 (outB s (k + 1)).length (vals .u8 (outB s (k + 1)))) := Lib.hid (by rw [HE.out, List.length_append, vals_append]; exact hown2)
        clear hb2 hown2 hg2
        go_wp2_with fail
        go_roundw
        case rel => exact ⟨k + 1, by omega, by go_num, HO2.out, HB2.out⟩
        case measure => simp [intOf]; omega
      by_cases e92 : c = 92
      · subst e92
        have HE : Hid (outB s (k + 1) = outB s k ++ [92, 92]) := Lib.hid HE0
        clear HE0 hc
        have HP1 := Lib.hid (HO.out.alloc (.cells #[.int .u8 92, .int .u8 92] 5))
        go_wp2_with (at_builtin; refine wpList_append_own _ rfl _ _ 49 rfl w1.heap.size 5 i0 (.int .u8 0) 1 1 Tryd.underlying49 hi hz0 hz1 hz2 rfl (by decide) _ _ _ rfl HP1.out ⟨wr.heap.size, 0, none⟩ 2 2 [.int .u8 92, .int .u8 92] rfl rfl ?c1 ?c2 ?c3 ?c4 ?c5 ?_)
        (try case c1 => exact World.news_of_block (cs := #[.int .u8 92, .int .u8 92]) (heap_alloc_new _ _))
        case c2 => first | rfl | (intro u hu; simp at hu; rcases hu with rfl | rfl | rfl | rfl | rfl | rfl <;> rfl) | (intro u hu; simp at hu; rcases hu with rfl | rfl <;> rfl) | (intro u hu; simp at hu; subst hu; rfl) | (intro u hu; simp at hu; repeat' (rcases hu with rfl | hu); all_goals (first | rfl | (subst hu; rfl)))
        case c3 => unfold maxLen; have := LL.out; omega
        case c4 => have := LL.out; omega
        case c5 => have := HB.out.size; first | (simp; omega) | omega
        intro v2 w2 hown2 hg2 _
        have hb2 := (HB.out.alloc HB.out.size (.cells #[.int .u8 92, .int .u8 92] 5)).grown hg2 (by have := HB.out.size; simp; omega) (fun q hq => (HO.out.lt q hq).1)
        have HB2 := Lib.hid hb2
        have HO2 : Hid (w2.ownsRow w1.heap.size 5 1 v2 (outB s (k + 1)).length (vals .u8 (outB s (k + 1)))) := Lib.hid (by rw [HE.out, List.length_append, vals_append]; exact hown2)
        clear hb2 hown2 hg2
        go_wp2_with fail
        go_roundw
        case rel => exact ⟨k + 1, by omega, by go_num, HO2.out, HB2.out⟩
        case measure => simp [intOf]; omega
      by_cases e8 : c = 8
      · subst e8
        have HE : Hid (outB s (k + 1) = outB s k ++ [92, 98]) := Lib.hid HE0
        clear HE0 hc
        have HP1 := Lib.hid (HO.out.alloc (.cells #[.int .u8 92, .int .u8 98] 5))
        go_wp2_with (at_builtin; refine wpList_append_own _ rfl _ _ 49 rfl w1.heap.size 5 i0 (.int .u8 0) 1 1 Tryd.underlying49 hi hz0 hz1 hz2 rfl (by decide) _ _ _ rfl HP1.out ⟨wr.heap.size, 0, none⟩ 2 2 [.int .u8 92, .int .u8 98] rfl rfl ?c1 ?c2 ?c3 ?c4 ?c5 ?_)
        (try case c1 => exact World.news_of_block (cs := #[.int .u8 92, .int .u8 98]) (heap_alloc_new _ _))
        case c2 => first | rfl | (intro u hu; simp at hu; rcases hu with rfl | rfl | rfl | rfl | rfl | rfl <;> rfl) | (intro u hu; simp at hu; rcases hu with rfl | rfl <;> rfl) | (intro u hu; simp at hu; subst hu; rfl) | (intro u hu; simp at hu; repeat' (rcases hu with rfl | hu); all_goals (first | rfl | (subst hu; rfl)))
        case c3 => unfold maxLen; have := LL.out; omega
        case c4 => have := LL.out; omega
        case c5 => have := HB.out.size; first | (simp; omega) | omega
        intro v2 w2 hown2 hg2 _
        have hb2 := (HB.out.alloc HB.out.size (.cells #[.int .u8 92, .int .u8 98] 5)).grown hg2 (by have := HB.out.size; simp; omega) (fun q hq => (HO.out.lt q hq).1)
        have HB2 := Lib.hid hb2
        have HO2 : Hid (w2.ownsRow w1.heap.size 5 1 v2 (outB s (k + 1)).length (vals .u8 (outB s (k + 1)))) := Lib.hid (by rw [HE.out, List.length_append, vals_append]; exact hown2)
        clear hb2 hown2 hg2
        go_wp2_with fail
        go_roundw
        case rel => exact ⟨k + 1, by omega, by go_num, HO2.out, HB2.out⟩
        case measure => simp [intOf]; omega
      by_cases e9 : c = 9
      · subst e9
        have HE : Hid (outB s (k + 1) = outB s k ++ [92, 116]) := Lib.hid HE0
        clear HE0 hc
        have HP1 := Lib.hid (HO.out.alloc (.cells #[.int .u8 92, .int .u8 116] 5))
        go_wp2_with (at_builtin; refine wpList_append_own _ rfl _ _ 49 rfl w1.heap.size 5 i0 (.int .u8 0) 1 1 Tryd.underlying49 hi hz0 hz1 hz2 rfl (by decide) _ _ _ rfl HP1.out ⟨wr.heap.size, 0, none⟩ 2 2 [.int .u8 92, .int .u8 116] rfl rfl ?c1 ?c2 ?c3 ?c4 ?c5 ?_)
        (try case c1 => exact World.news_of_block (cs := #[.int .u8 92, .int .u8 116]) (heap_alloc_new _ _))
        case c2 => first | rfl | (intro u hu; simp at hu; rcases hu with rfl | rfl | rfl | rfl | rfl | rfl <;> rfl) | (intro u hu; simp at hu; rcases hu with rfl | rfl <;> rfl) | (intro u hu; simp at hu; subst hu; rfl) | (intro u hu; simp at hu; repeat' (rcases hu with rfl | hu); all_goals (first | rfl | (subst hu; rfl)))
        case c3 => unfold maxLen; have := LL.out; omega
        case c4 => have := LL.out; omega
        case c5 => have := HB.out.size; first | (simp; omega) | omega
        intro v2 w2 hown2 hg2 _
        have hb2 := (HB.out.alloc HB.out.size (.cells #[.int .u8 92, .int .u8 116] 5)).grown hg2 (by have := HB.out.size; simp; omega) (fun q hq => (HO.out.lt q hq).1)
        have HB2 := Lib.hid hb2
        have HO2 : Hid (w2.ownsRow w1.heap.size 5 1 v2 (outB s (k + 1)).length (vals .u8 (outB s (k + 1)))) := Lib.hid (by rw [HE.out, List.length_append, vals_append]; exact hown2)
        clear hb2 hown2 hg2
        go_wp2_with fail
        go_roundw
        case rel => exact ⟨k + 1, by omega, by go_num, HO2.out, HB2.out⟩
        case measure => simp [intOf]; omega
      by_cases e10 : c = 10
      · subst e10
        have HE : Hid (outB s (k + 1) = outB s k ++ [92, 110]) := Lib.hid HE0
        clear HE0 hc
        have HP1 := Lib.hid (HO.out.alloc (.cells #[.int .u8 92, .int .u8 110] 5))
        go_wp2_with (at_builtin; refine wpList_append_own _ rfl _ _ 49 rfl w1.heap.size 5 i0 (.int .u8 0) 1 1 Tryd.underlying49 hi hz0 hz1 hz2 rfl (by decide) _ _ _ rfl HP1.out ⟨wr.heap.size, 0, none⟩ 2 2 [.int .u8 92, .int .u8 110] rfl rfl ?c1 ?c2 ?c3 ?c4 ?c5 ?_)
        (try case c1 => exact World.news_of_block (cs := #[.int .u8 92, .int .u8 110]) (heap_alloc_new _ _))
        case c2 => first | rfl | (intro u hu; simp at hu; rcases hu with rfl | rfl | rfl | rfl | rfl | rfl <;> rfl) | (intro u hu; simp at hu; rcases hu with rfl | rfl <;> rfl) | (intro u hu; simp at hu; subst hu; rfl) | (intro u hu; simp at hu; repeat' (rcases hu with rfl | hu); all_goals (first | rfl | (subst hu; rfl)))
        case c3 => unfold maxLen; have := LL.out; omega
        case c4 => have := LL.out; omega
        case c5 => have := HB.out.size; first | (simp; omega) | omega
        intro v2 w2 hown2 hg2 _
        have hb2 := (HB.out.alloc HB.out.size (.cells #[.int .u8 92, .int .u8 110] 5)).grown hg2 (by have := HB.out.size; simp; omega) (fun q hq => (HO.out.lt q hq).1)
        have HB2 := Lib.hid hb2
        have HO2 : Hid (w2.ownsRow w1.heap.size 5 1 v2 (outB s (k + 1)).length (vals .u8 (outB s (k + 1)))) := Lib.hid (by rw [HE.out, List.length_append, vals_append]; exact hown2)
        clear hb2 hown2 hg2
        go_wp2_with fail
        go_roundw
        case rel => exact ⟨k + 1, by omega, by go_num, HO2.out, HB2.out⟩
        case measure => simp [intOf]; omega
      by_cases e12 : c = 12
      · subst e12
        have HE : Hid (outB s (k + 1) = outB s k ++ [92, 102]) := Lib.hid HE0
        clear HE0 hc
        have HP1 := Lib.hid (HO.out.alloc (.cells #[.int .u8 92, .int .u8 102] 5))
        go_wp2_with (at_builtin; refine wpList_append_own _ rfl _ _ 49 rfl w1.heap.size 5 i0 (.int .u8 0) 1 1 Tryd.underlying49 hi hz0 hz1 hz2 rfl (by decide) _ _ _ rfl HP1.out ⟨wr.heap.size, 0, none⟩ 2 2 [.int .u8 92, .int .u8 102] rfl rfl ?c1 ?c2 ?c3 ?c4 ?c5 ?_)
        (try case c1 => exact World.news_of_block (cs := #[.int .u8 92, .int .u8 102]) (heap_alloc_new _ _))
        case c2 => first | rfl | (intro u hu; simp at hu; rcases hu with rfl | rfl | rfl | rfl | rfl | rfl <;> rfl) | (intro u hu; simp at hu; rcases hu with rfl | rfl <;> rfl) | (intro u hu; simp at hu; subst hu; rfl) | (intro u hu; simp at hu; repeat' (rcases hu with rfl | hu); all_goals (first | rfl | (subst hu; rfl)))
        case c3 => unfold maxLen; have := LL.out; omega
        case c4 => have := LL.out; omega
        case c5 => have := HB.out.size; first | (simp; omega) | omega
        intro v2 w2 hown2 hg2 _
        have hb2 := (HB.out.alloc HB.out.size (.cells #[.int .u8 92, .int .u8 102] 5)).grown hg2 (by have := HB.out.size; simp; omega) (fun q hq => (HO.out.lt q hq).1)
        have HB2 := Lib.hid hb2
        have HO2 : Hid (w2.ownsRow w1.heap.size 5 1 v2 (outB s (k + 1)).length (vals .u8 (outB s (k + 1)))) := Lib.hid (by rw [HE.out, List.length_append, vals_append]; exact hown2)
        clear hb2 hown2 hg2
        go_wp2_with fail
        go_roundw
        case rel => exact ⟨k + 1, by omega, by go_num, HO2.out, HB2.out⟩
        case measure => simp [intOf]; omega
      by_cases e13 : c = 13
      · subst e13
        have HE : Hid (outB s (k + 1) = outB s k ++ [92, 114]) := Lib.hid HE0
        clear HE0 hc
        have HP1 := Lib.hid (HO.out.alloc (.cells #[.int .u8 92, .int .u8 114] 5))
        go_wp2_with (at_builtin; refine wpList_append_own _ rfl _ _ 49 rfl w1.heap.size 5 i0 (.int .u8 0) 1 1 Tryd.underlying49 hi hz0 hz1 hz2 rfl (by decide) _ _ _ rfl HP1.out ⟨wr.heap.size, 0, none⟩ 2 2 [.int .u8 92, .int .u8 114] rfl rfl ?c1 ?c2 ?c3 ?c4 ?c5 ?_)
        (try case c1 => exact World.news_of_block (cs := #[.int .u8 92, .int .u8 114]) (heap_alloc_new _ _))
        case c2 => first | rfl | (intro u hu; simp at hu; rcases hu with rfl | rfl | rfl | rfl | rfl | rfl <;> rfl) | (intro u hu; simp at hu; rcases hu with rfl | rfl <;> rfl) | (intro u hu; simp at hu; subst hu; rfl) | (intro u hu; simp at hu; repeat' (rcases hu with rfl | hu); all_goals (first | rfl | (subst hu; rfl)))
        case c3 => unfold maxLen; have := LL.out; omega
        case c4 => have := LL.out; omega
        case c5 => have := HB.out.size; first | (simp; omega) | omega
        intro v2 w2 hown2 hg2 _
        have hb2 := (HB.out.alloc HB.out.size (.cells #[.int .u8 92, .int .u8 114] 5)).grown hg2 (by have := HB.out.size; simp; omega) (fun q hq => (HO.out.lt q hq).1)
        have HB2 := Lib.hid hb2
        have HO2 : Hid (w2.ownsRow w1.heap.size 5 1 v2 (outB s (k + 1)).length (vals .u8 (outB s (k + 1)))) := Lib.hid (by rw [HE.out, List.length_append, vals_append]; exact hown2)
        clear hb2 hown2 hg2
        go_wp2_with fail
        go_roundw
        case rel => exact ⟨k + 1, by omega, by go_num, HO2.out, HB2.out⟩
        case measure => simp [intOf]; omega
      have q34 : ((c : Int) == 34) = false := eqF (by omega)
      have q92 : ((c : Int) == 92) = false := eqF (by omega)
      have q8 : ((c : Int) == 8) = false := eqF (by omega)
      have q9 : ((c : Int) == 9) = false := eqF (by omega)
      have q10 : ((c : Int) == 10) = false := eqF (by omega)
      have q12 : ((c : Int) == 12) = false := eqF (by omega)
      have q13 : ((c : Int) == 13) = false := eqF (by omega)
      by_cases h32 : c < 32
      · have HE : Hid (outB s (k + 1) = outB s k ++ [92, 117, 48, 48, 48 + c / 16, hexd (c % 16)]) := Lib.hid (by rw [HE0]; unfold escB; rw [if_neg e34, if_neg e92, if_neg e8, if_neg e9, if_neg e10, if_neg e12, if_neg e13, if_pos h32])
        have h32' : (c : Int) < 32 := by omega
        have hx := hex_at (c % 16) (by omega)
        rw [show (((c % 16 : Nat)) : Int) = (c : Int) % 16 from by omega] at hx
        obtain ⟨X, hX⟩ : ∃ X, X = 48 + c / 16 := ⟨_, rfl⟩
        rw [← hX] at HE
        have w17 : 48 + (c : Int) / 16 = (X : Int) := by omega
        have w16 : IntKind.u8.wrap (48 + (c : Int) / 16) = (X : Int) := by rw [w17]; exact IntWalk.u8_in _ (by omega)
        generalize hexd (c % 16) = Y at *
        clear HE0 hc e34 e92 e8 e9 e10 e12 e13 h32 hX
        have HP1 := Lib.hid (HO.out.alloc (.cells #[.int .u8 92, .int .u8 117, .int .u8 48, .int .u8 48, .int .u8 X, .int .u8 Y] 5))
        go_wp2_with (at_builtin; refine wpList_append_own _ rfl _ _ 49 rfl w1.heap.size 5 i0 (.int .u8 0) 1 1 Tryd.underlying49 hi hz0 hz1 hz2 rfl (by decide) _ _ _ rfl HP1.out ⟨wr.heap.size, 0, none⟩ 6 6 [.int .u8 92, .int .u8 117, .int .u8 48, .int .u8 48, .int .u8 X, .int .u8 Y] rfl rfl ?c1 ?c2 ?c3 ?c4 ?c5 ?_)
        (try case c1 => exact World.news_of_block (cs := #[.int .u8 92, .int .u8 117, .int .u8 48, .int .u8 48, .int .u8 X, .int .u8 Y]) (heap_alloc_new _ _))
        case c2 => first | rfl | (intro u hu; simp at hu; rcases hu with rfl | rfl | rfl | rfl | rfl | rfl <;> rfl) | (intro u hu; simp at hu; rcases hu with rfl | rfl <;> rfl) | (intro u hu; simp at hu; subst hu; rfl) | (intro u hu; simp at hu; repeat' (rcases hu with rfl | hu); all_goals (first | rfl | (subst hu; rfl)))
        case c3 => unfold maxLen; have := LL.out; omega
        case c4 => have := LL.out; omega
        case c5 => have := HB.out.size; first | (simp; omega) | omega
        intro v2 w2 hown2 hg2 _
        have hb2 := (HB.out.alloc HB.out.size (.cells #[.int .u8 92, .int .u8 117, .int .u8 48, .int .u8 48, .int .u8 X, .int .u8 Y] 5)).grown hg2 (by have := HB.out.size; simp; omega) (fun q hq => (HO.out.lt q hq).1)
        have HB2 := Lib.hid hb2
        have HO2 : Hid (w2.ownsRow w1.heap.size 5 1 v2 (outB s (k + 1)).length (vals .u8 (outB s (k + 1)))) := Lib.hid (by rw [HE.out, List.length_append, vals_append]; exact hown2)
        clear hb2 hown2 hg2
        go_wp2_with fail
        go_roundw
        case rel => exact ⟨k + 1, by omega, by go_num, HO2.out, HB2.out⟩
        case measure => simp [intOf]; omega
      · have HE : Hid (outB s (k + 1) = outB s k ++ [c]) := Lib.hid (by rw [HE0]; unfold escB; rw [if_neg e34, if_neg e92, if_neg e8, if_neg e9, if_neg e10, if_neg e12, if_neg e13, if_neg h32])
        have h32' : 32 ≤ (c : Int) := by omega
        clear HE0 hc e34 e92 e8 e9 e10 e12 e13 h32
        have HP1 := Lib.hid (HO.out.alloc (.cells #[.int .u8 c] 5))
        go_wp2_with (at_builtin; refine wpList_append_own _ rfl _ _ 49 rfl w1.heap.size 5 i0 (.int .u8 0) 1 1 Tryd.underlying49 hi hz0 hz1 hz2 rfl (by decide) _ _ _ rfl HP1.out ⟨wr.heap.size, 0, none⟩ 1 1 [.int .u8 c] rfl rfl ?c1 ?c2 ?c3 ?c4 ?c5 ?_)
        (try case c1 => exact World.news_of_block (cs := #[.int .u8 c]) (heap_alloc_new _ _))
        case c2 => first | rfl | (intro u hu; simp at hu; rcases hu with rfl | rfl | rfl | rfl | rfl | rfl <;> rfl) | (intro u hu; simp at hu; rcases hu with rfl | rfl <;> rfl) | (intro u hu; simp at hu; subst hu; rfl) | (intro u hu; simp at hu; repeat' (rcases hu with rfl | hu); all_goals (first | rfl | (subst hu; rfl)))
        case c3 => unfold maxLen; have := LL.out; omega
        case c4 => have := LL.out; omega
        case c5 => have := HB.out.size; first | (simp; omega) | omega
        intro v2 w2 hown2 hg2 _
        have hb2 := (HB.out.alloc HB.out.size (.cells #[.int .u8 c] 5)).grown hg2 (by have := HB.out.size; simp; omega) (fun q hq => (HO.out.lt q hq).1)
        have HB2 := Lib.hid hb2
        have HO2 : Hid (w2.ownsRow w1.heap.size 5 1 v2 (outB s (k + 1)).length (vals .u8 (outB s (k + 1)))) := Lib.hid (by rw [HE.out, List.length_append, vals_append]; exact hown2)
        clear hb2 hown2 hg2
        go_wp2_with fail
        go_roundw
        case rel => exact ⟨k + 1, by omega, by go_num, HO2.out, HB2.out⟩
        case measure => simp [intOf]; omega
    · obtain rfl : k = s.size := by omega
      have HLT : Hid (∀ x ∈ outB s s.size ++ [34], x < 256) := Lib.hid (by
        intro x hx
        rcases List.mem_append.1 hx with hx | hx
        · exact outB_lt s s.size (Nat.le_refl _) x hx
        · simp at hx; omega)
      have HP1 := Lib.hid (HO.out.alloc (.cells #[.int .u8 34] 5))
      clear hlt hk
      go_wp2_with (at_builtin; refine wpList_append_own _ rfl _ _ 49 rfl w1.heap.size 5 i0 (.int .u8 0) 1 1 Tryd.underlying49 hi hz0 hz1 hz2 rfl (by decide) _ _ _ rfl HP1.out ⟨wr.heap.size, 0, none⟩ 1 1 [.int .u8 34] rfl rfl ?c1 ?c2 ?c3 ?c4 ?c5 ?_)
      (try case c1 => exact World.news_of_block (cs := #[.int .u8 34]) (heap_alloc_new _ _))
      case c2 => first | rfl | (intro u hu; simp at hu; subst hu; rfl)
      case c3 => unfold maxLen; have := LL.out; omega
      case c4 => have := LL.out; omega
      case c5 => have := HB.out.size; first | (simp; omega) | omega
      intro v2 w2 hown2 hg2 _
      have hb2 := (HB.out.alloc HB.out.size (.cells #[.int .u8 34] 5)).grown hg2 (by have := HB.out.size; simp; omega) (fun q hq => (HO.out.lt q hq).1)
      obtain ⟨A2, k2, rfl, -, -, -, -⟩ := own_rd hown2
      have HCV := row_string (n := (outB s s.size).length + 1) HLT.out (by simp) (by rw [vals_append]; exact hown2) (by omega)
      have HL : Hid (strOf (outB s s.size ++ [34]) = litB s) := Lib.hid rfl
      have BZ : Hid (Below w.heap.size w w2) := Lib.hid (B1.out.trans (hb2.mono B1.out.size))
      clear hb2 hown2 hg2
      generalize strOf (outB s s.size ++ [34]) = Z at *
      go_wp2_with fail
      go_ret2
      exact ⟨by rw [HL.out] <;> rfl, BZ.out⟩

set_option maxRecDepth 100000 in
theorem rquote_no (s : ByteArray) (hs : s.size ≤ 1048576) (ht : isTextB s = false) (w : World) :
    Calls Tryd.prog 11 #[.string s] w fun e w' => e = .returned (.tuple #[.string ⟨#[]⟩, .bool false]) ∧ Below w.heap.size w w' := by
  have HT := Lib.hid (isText_any s hs w)
  rw [ht] at HT
  clear ht
  go_enter Tryd.func11, Tryd.ntmps11
  go_wp2_with fail
  refine HT.out.mono ?_
  rintro e w1 ⟨rfl, hb⟩
  have B1 := Lib.hid hb
  clear hb HT
  go_wp2_with fail
  go_ret2
  exact ⟨rfl, B1.out⟩
end Go.Proofs.YtiignmjglihbnaaDoor
