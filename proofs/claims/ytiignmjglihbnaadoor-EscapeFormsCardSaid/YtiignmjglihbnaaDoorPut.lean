/- Contract of utf.put. -/
import Derived.Test.YtiignmjglihbnaaDoorInsideD
import Derived.Test.YtiignmjglihbnaaDoorFirst
import Derived.Test.YtiignmjglihbnaaDoorEncode
namespace Go.Proofs.YtiignmjglihbnaaDoor
open Go.RowKit
set_option linter.unusedVariables false

/-- bytes are put behind an owned row of bytes: what is known of the new row and of the rest of memory -/
def PutPost (w : World) (base : Nat) (v : Value) (xs ys : List Nat) (e : Ending) (w' : World) : Prop :=
  ∃ v', e = .returned v' ∧ w'.ownsRow base 5 1 v' (xs ++ ys).length (vals .u8 (xs ++ ys)) ∧ w.grownBy w' v.ownBlock

theorem grown_alloc {w w' : World} {o : Obj} {r : Option Nat} (h : (w.alloc o).grownBy w' r) : w.grownBy w' r :=
  ⟨h.os, h.tape, h.output, by have := h.size; simp at this; omega, fun k hk hr => by
    rw [h.block k (by simp; omega) hr]
    exact Below.heap_alloc w o k hk⟩
theorem one_mem (ys : List Nat) : ∀ u ∈ vals .u8 ys, u.oneCell' = true := by
  intro u hu
  unfold vals at hu
  obtain ⟨y, -, rfl⟩ := List.mem_map.1 hu
  rfl
theorem i32_m63 (x : Int) (h₀ : 0 ≤ x) (h₁ : x < 2147483648) : bits .and .i32 x 63 = x % 64 := bits_mask .i32 31 (by decide) wraps_i32 6 (by decide) x h₀ h₁

set_option maxRecDepth 100000 in
set_option maxHeartbeats 1500000 in
theorem put_1 (base : Nat) (v : Value) (xs : List Nat) (r : Nat) (hlo : 0 ≤ r) (hhi : r < 128) (w : World) (ho : w.ownsRow base 5 1 v xs.length (vals .u8 xs)) (hl : xs.length ≤ 140737488355000) (hb : base ≤ w.heap.size) :
    Calls Tryd.prog 49 #[v, .int .i32 r] w (PutPost w base v xs (encN r)) := by
  have HO := Lib.hid ho
  have HL := Lib.hid hl
  have HB := Lib.hid hb
  have z1 : (r : Int) < 128 := by omega
  have e0 : IntKind.u8.wrap (r : Int) = (r : Int) := IntWalk.u8_in _ (by omega)
  have HE : Hid (encN r = [r]) := Lib.hid (by unfold encN; rw [if_pos (by omega)]; (try subst_vars); try rfl)
  clear ho hl hb hlo hhi
  have HP := Lib.hid (HO.out.alloc (.cells #[.int .u8 (r : Nat)] 5))
  obtain ⟨i0, hi, hz0, hz1, hz2⟩ := info_parts info_u8
  go_enter Tryd.func49, Tryd.ntmps49
  go_upto_region 2 with fail
  go_wp2_with (at_builtin; refine wpList_append_own _ rfl _ _ 49 rfl base 5 i0 (.int .u8 0) 1 1 Tryd.underlying49 hi hz0 hz1 hz2 rfl (by decide) _ _ _ rfl HP.out ⟨w.heap.size, 0, none⟩ 1 1 [.int .u8 (r : Nat)] rfl rfl ?c1 ?c2 ?c3 ?c4 ?c5 ?_)
  (try case c1 => exact World.news_of_block (cs := #[.int .u8 (r : Nat)]) (heap_alloc_new _ _))
  case c2 => first | rfl | exact one_mem [r] | exact ⟨rfl, rfl⟩ | exact ⟨rfl, rfl, rfl⟩ | exact ⟨rfl, rfl, rfl, rfl⟩
  case c3 => unfold maxLen; have := HL.out; omega
  case c4 => have := HL.out; omega
  case c5 => have := HB.out; simp; omega
  intro v2 w2 hown2 hg2 _
  have HOWN := Lib.hid hown2
  have HG := Lib.hid hg2
  clear hown2 hg2
  go_wp2_with fail
  go_ret
  exact ⟨_, rfl, by rw [HE.out, List.length_append, vals_append]; exact HOWN.out, grown_alloc HG.out⟩

set_option maxRecDepth 100000 in
set_option maxHeartbeats 1500000 in
theorem put_2 (base : Nat) (v : Value) (xs : List Nat) (r : Nat) (hlo : 128 ≤ r) (hhi : r < 2048) (w : World) (ho : w.ownsRow base 5 1 v xs.length (vals .u8 xs)) (hl : xs.length ≤ 140737488355000) (hb : base ≤ w.heap.size) :
    Calls Tryd.prog 49 #[v, .int .i32 r] w (PutPost w base v xs (encN r)) := by
  have HO := Lib.hid ho
  have HL := Lib.hid hl
  have HB := Lib.hid hb
  have z1 : ¬ ((r : Int) < 128) := by omega
  have z2 : (r : Int) < 2048 := by omega
  obtain ⟨y0, hy0⟩ : ∃ y0, y0 = r / 64 := ⟨_, rfl⟩
  have e0 : (r : Int) / 64 = (y0 : Int) := by omega
  have p0 : (y0 : Int) % 256 = (y0 : Int) := by omega
  obtain ⟨b0, hb0⟩ : ∃ b0, b0 = 192 + r / 64 := ⟨_, rfl⟩
  have o0 : bits .or .u8 192 (y0 : Int) = (b0 : Int) := by rw [u8_or192 _ (by omega) (by omega)]; omega
  obtain ⟨y1, hy1⟩ : ∃ y, y = r % 64 := ⟨_, rfl⟩
  have e1 : bits .and .i32 ((r : Int)) 63 = (y1 : Int) := by rw [i32_m63 _ (by omega) (by omega)]; omega
  have p1 : (y1 : Int) % 256 = (y1 : Int) := by omega
  obtain ⟨b1, hb1⟩ : ∃ b, b = 128 + r % 64 := ⟨_, rfl⟩
  have o1 : bits .or .u8 128 (y1 : Int) = (b1 : Int) := by rw [u8_or128 _ (by omega) (by omega)]; omega
  have HE : Hid (encN r = [b0, b1]) := Lib.hid (by unfold encN; rw [if_neg (by omega), if_pos (by omega)]; (try subst_vars); try rfl)
  clear ho hl hb hlo hhi hy0 hb0 hy1 hb1
  have HP := Lib.hid (HO.out.alloc (.cells #[.int .u8 (b0 : Nat), .int .u8 (b1 : Nat)] 5))
  obtain ⟨i0, hi, hz0, hz1, hz2⟩ := info_parts info_u8
  go_enter Tryd.func49, Tryd.ntmps49
  go_upto_region 4 with fail
  go_wp2_with (at_builtin; refine wpList_append_own _ rfl _ _ 49 rfl base 5 i0 (.int .u8 0) 1 1 Tryd.underlying49 hi hz0 hz1 hz2 rfl (by decide) _ _ _ rfl HP.out ⟨w.heap.size, 0, none⟩ 2 2 [.int .u8 (b0 : Nat), .int .u8 (b1 : Nat)] rfl rfl ?c1 ?c2 ?c3 ?c4 ?c5 ?_)
  (try case c1 => exact World.news_of_block (cs := #[.int .u8 (b0 : Nat), .int .u8 (b1 : Nat)]) (heap_alloc_new _ _))
  case c2 => first | rfl | exact one_mem [b0, b1] | exact ⟨rfl, rfl⟩ | exact ⟨rfl, rfl, rfl⟩ | exact ⟨rfl, rfl, rfl, rfl⟩
  case c3 => unfold maxLen; have := HL.out; omega
  case c4 => have := HL.out; omega
  case c5 => have := HB.out; simp; omega
  intro v2 w2 hown2 hg2 _
  have HOWN := Lib.hid hown2
  have HG := Lib.hid hg2
  clear hown2 hg2
  go_wp2_with fail
  go_ret
  exact ⟨_, rfl, by rw [HE.out, List.length_append, vals_append]; exact HOWN.out, grown_alloc HG.out⟩

set_option maxRecDepth 100000 in
set_option maxHeartbeats 1500000 in
theorem put_3 (base : Nat) (v : Value) (xs : List Nat) (r : Nat) (hlo : 2048 ≤ r) (hhi : r < 65536) (w : World) (ho : w.ownsRow base 5 1 v xs.length (vals .u8 xs)) (hl : xs.length ≤ 140737488355000) (hb : base ≤ w.heap.size) :
    Calls Tryd.prog 49 #[v, .int .i32 r] w (PutPost w base v xs (encN r)) := by
  have HO := Lib.hid ho
  have HL := Lib.hid hl
  have HB := Lib.hid hb
  have z1 : ¬ ((r : Int) < 128) := by omega
  have z2 : ¬ ((r : Int) < 2048) := by omega
  have z3 : (r : Int) < 65536 := by omega
  obtain ⟨y0, hy0⟩ : ∃ y0, y0 = r / 4096 := ⟨_, rfl⟩
  have e0 : (r : Int) / 4096 = (y0 : Int) := by omega
  have p0 : (y0 : Int) % 256 = (y0 : Int) := by omega
  obtain ⟨b0, hb0⟩ : ∃ b0, b0 = 224 + r / 4096 := ⟨_, rfl⟩
  have o0 : bits .or .u8 224 (y0 : Int) = (b0 : Int) := by rw [u8_or224 _ (by omega) (by omega)]; omega
  obtain ⟨y1, hy1⟩ : ∃ y, y = r / 64 % 64 := ⟨_, rfl⟩
  have e1 : bits .and .i32 ((r : Int) / 64) 63 = (y1 : Int) := by rw [i32_m63 _ (by omega) (by omega)]; omega
  have p1 : (y1 : Int) % 256 = (y1 : Int) := by omega
  obtain ⟨b1, hb1⟩ : ∃ b, b = 128 + r / 64 % 64 := ⟨_, rfl⟩
  have o1 : bits .or .u8 128 (y1 : Int) = (b1 : Int) := by rw [u8_or128 _ (by omega) (by omega)]; omega
  obtain ⟨y2, hy2⟩ : ∃ y, y = r % 64 := ⟨_, rfl⟩
  have e2 : bits .and .i32 ((r : Int)) 63 = (y2 : Int) := by rw [i32_m63 _ (by omega) (by omega)]; omega
  have p2 : (y2 : Int) % 256 = (y2 : Int) := by omega
  obtain ⟨b2, hb2⟩ : ∃ b, b = 128 + r % 64 := ⟨_, rfl⟩
  have o2 : bits .or .u8 128 (y2 : Int) = (b2 : Int) := by rw [u8_or128 _ (by omega) (by omega)]; omega
  have HE : Hid (encN r = [b0, b1, b2]) := Lib.hid (by unfold encN; rw [if_neg (by omega), if_neg (by omega), if_pos (by omega)]; (try subst_vars); try rfl)
  clear ho hl hb hlo hhi hy0 hb0 hy1 hb1 hy2 hb2
  have HP := Lib.hid (HO.out.alloc (.cells #[.int .u8 (b0 : Nat), .int .u8 (b1 : Nat), .int .u8 (b2 : Nat)] 5))
  obtain ⟨i0, hi, hz0, hz1, hz2⟩ := info_parts info_u8
  go_enter Tryd.func49, Tryd.ntmps49
  go_upto_region 6 with fail
  go_wp2_with (at_builtin; refine wpList_append_own _ rfl _ _ 49 rfl base 5 i0 (.int .u8 0) 1 1 Tryd.underlying49 hi hz0 hz1 hz2 rfl (by decide) _ _ _ rfl HP.out ⟨w.heap.size, 0, none⟩ 3 3 [.int .u8 (b0 : Nat), .int .u8 (b1 : Nat), .int .u8 (b2 : Nat)] rfl rfl ?c1 ?c2 ?c3 ?c4 ?c5 ?_)
  (try case c1 => exact World.news_of_block (cs := #[.int .u8 (b0 : Nat), .int .u8 (b1 : Nat), .int .u8 (b2 : Nat)]) (heap_alloc_new _ _))
  case c2 => first | rfl | exact one_mem [b0, b1, b2] | exact ⟨rfl, rfl⟩ | exact ⟨rfl, rfl, rfl⟩ | exact ⟨rfl, rfl, rfl, rfl⟩
  case c3 => unfold maxLen; have := HL.out; omega
  case c4 => have := HL.out; omega
  case c5 => have := HB.out; simp; omega
  intro v2 w2 hown2 hg2 _
  have HOWN := Lib.hid hown2
  have HG := Lib.hid hg2
  clear hown2 hg2
  go_wp2_with fail
  go_ret
  exact ⟨_, rfl, by rw [HE.out, List.length_append, vals_append]; exact HOWN.out, grown_alloc HG.out⟩

set_option maxRecDepth 100000 in
set_option maxHeartbeats 1500000 in
theorem put_4 (base : Nat) (v : Value) (xs : List Nat) (r : Nat) (hlo : 65536 ≤ r) (hhi : r < 1114112) (w : World) (ho : w.ownsRow base 5 1 v xs.length (vals .u8 xs)) (hl : xs.length ≤ 140737488355000) (hb : base ≤ w.heap.size) :
    Calls Tryd.prog 49 #[v, .int .i32 r] w (PutPost w base v xs (encN r)) := by
  have HO := Lib.hid ho
  have HL := Lib.hid hl
  have HB := Lib.hid hb
  have z1 : ¬ ((r : Int) < 128) := by omega
  have z2 : ¬ ((r : Int) < 2048) := by omega
  have z3 : ¬ ((r : Int) < 65536) := by omega
  obtain ⟨y0, hy0⟩ : ∃ y0, y0 = r / 262144 := ⟨_, rfl⟩
  have e0 : (r : Int) / 262144 = (y0 : Int) := by omega
  have p0 : (y0 : Int) % 256 = (y0 : Int) := by omega
  obtain ⟨b0, hb0⟩ : ∃ b0, b0 = 240 + r / 262144 := ⟨_, rfl⟩
  have o0 : bits .or .u8 240 (y0 : Int) = (b0 : Int) := by rw [u8_or240 _ (by omega) (by omega)]; omega
  obtain ⟨y1, hy1⟩ : ∃ y, y = r / 4096 % 64 := ⟨_, rfl⟩
  have e1 : bits .and .i32 ((r : Int) / 4096) 63 = (y1 : Int) := by rw [i32_m63 _ (by omega) (by omega)]; omega
  have p1 : (y1 : Int) % 256 = (y1 : Int) := by omega
  obtain ⟨b1, hb1⟩ : ∃ b, b = 128 + r / 4096 % 64 := ⟨_, rfl⟩
  have o1 : bits .or .u8 128 (y1 : Int) = (b1 : Int) := by rw [u8_or128 _ (by omega) (by omega)]; omega
  obtain ⟨y2, hy2⟩ : ∃ y, y = r / 64 % 64 := ⟨_, rfl⟩
  have e2 : bits .and .i32 ((r : Int) / 64) 63 = (y2 : Int) := by rw [i32_m63 _ (by omega) (by omega)]; omega
  have p2 : (y2 : Int) % 256 = (y2 : Int) := by omega
  obtain ⟨b2, hb2⟩ : ∃ b, b = 128 + r / 64 % 64 := ⟨_, rfl⟩
  have o2 : bits .or .u8 128 (y2 : Int) = (b2 : Int) := by rw [u8_or128 _ (by omega) (by omega)]; omega
  obtain ⟨y3, hy3⟩ : ∃ y, y = r % 64 := ⟨_, rfl⟩
  have e3 : bits .and .i32 ((r : Int)) 63 = (y3 : Int) := by rw [i32_m63 _ (by omega) (by omega)]; omega
  have p3 : (y3 : Int) % 256 = (y3 : Int) := by omega
  obtain ⟨b3, hb3⟩ : ∃ b, b = 128 + r % 64 := ⟨_, rfl⟩
  have o3 : bits .or .u8 128 (y3 : Int) = (b3 : Int) := by rw [u8_or128 _ (by omega) (by omega)]; omega
  have HE : Hid (encN r = [b0, b1, b2, b3]) := Lib.hid (by unfold encN; rw [if_neg (by omega), if_neg (by omega), if_neg (by omega)]; (try subst_vars); try rfl)
  clear ho hl hb hlo hhi hy0 hb0 hy1 hb1 hy2 hb2 hy3 hb3
  have HP := Lib.hid (HO.out.alloc (.cells #[.int .u8 (b0 : Nat), .int .u8 (b1 : Nat), .int .u8 (b2 : Nat), .int .u8 (b3 : Nat)] 5))
  obtain ⟨i0, hi, hz0, hz1, hz2⟩ := info_parts info_u8
  go_enter Tryd.func49, Tryd.ntmps49
  go_upto_region 7 with fail
  go_wp2_with (at_builtin; refine wpList_append_own _ rfl _ _ 49 rfl base 5 i0 (.int .u8 0) 1 1 Tryd.underlying49 hi hz0 hz1 hz2 rfl (by decide) _ _ _ rfl HP.out ⟨w.heap.size, 0, none⟩ 4 4 [.int .u8 (b0 : Nat), .int .u8 (b1 : Nat), .int .u8 (b2 : Nat), .int .u8 (b3 : Nat)] rfl rfl ?c1 ?c2 ?c3 ?c4 ?c5 ?_)
  (try case c1 => exact World.news_of_block (cs := #[.int .u8 (b0 : Nat), .int .u8 (b1 : Nat), .int .u8 (b2 : Nat), .int .u8 (b3 : Nat)]) (heap_alloc_new _ _))
  case c2 => first | rfl | exact one_mem [b0, b1, b2, b3] | exact ⟨rfl, rfl⟩ | exact ⟨rfl, rfl, rfl⟩ | exact ⟨rfl, rfl, rfl, rfl⟩
  case c3 => unfold maxLen; have := HL.out; omega
  case c4 => have := HL.out; omega
  case c5 => have := HB.out; simp; omega
  intro v2 w2 hown2 hg2 _
  have HOWN := Lib.hid hown2
  have HG := Lib.hid hg2
  clear hown2 hg2
  go_wp2_with fail
  go_ret
  exact ⟨_, rfl, by rw [HE.out, List.length_append, vals_append]; exact HOWN.out, grown_alloc HG.out⟩

theorem put_any (base : Nat) (v : Value) (xs : List Nat) (r : Nat) (hr : r < 1114112) (w : World) (ho : w.ownsRow base 5 1 v xs.length (vals .u8 xs)) (hl : xs.length ≤ 140737488355000) (hb : base ≤ w.heap.size) :
    Calls Tryd.prog 49 #[v, .int .i32 r] w (PutPost w base v xs (encN r)) := by
  by_cases h1 : r < 128
  · exact put_1 base v xs r (Nat.zero_le _) h1 w ho hl hb
  by_cases h2 : r < 2048
  · exact put_2 base v xs r (by omega) h2 w ho hl hb
  by_cases h3 : r < 65536
  · exact put_3 base v xs r (by omega) h3 w ho hl hb
  exact put_4 base v xs r (by omega) hr w ho hl hb
end Go.Proofs.YtiignmjglihbnaaDoor
