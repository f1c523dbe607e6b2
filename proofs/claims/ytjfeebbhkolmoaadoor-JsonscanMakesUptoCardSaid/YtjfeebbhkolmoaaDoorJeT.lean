/- Chapter 9 of the program: put, FromUnits, Text (for seat json). -/
import Derived.Test.YtjfeebbhkolmoaaDoorJeP
import Derived.Lib.OthersKept
import Derived.Laws.Cover4
namespace Go.Proofs.YtjfeebbhkolmoaaDoor.E
open Go.RowKit
set_option linter.unusedVariables false

section
open Go.RowKit
/-- bytes are put behind an owned row of bytes: what is known of the new row and of the rest of memory -/
def PutPost (w : World) (base : Nat) (v : Value) (xs ys : List Nat) (e : Ending) (w' : World) : Prop :=
  ∃ v', e = .returned v' ∧ w'.ownsRow base 5 1 v' (xs ++ ys).length (vals .u8 (xs ++ ys)) ∧ w.grownBy w' v.ownBlock
theorem grown_alloc {w w' : World} {o : Obj} {r : Option Nat} (h : (w.alloc o).grownBy w' r) : w.grownBy w' r :=
  ⟨h.os, h.tape, h.output, by have := h.size; simp at this; omega, fun k hk hr => by
    rw [h.block k (by simp; omega) hr]
    exact Below.heap_alloc w o k hk⟩
theorem one_mem (ys : List Nat) : ∀ u ∈ vals .u8 ys, u.oneCell' = true := by
  intro u hu
  unfold vals at hu
  obtain ⟨y, -, rfl⟩ := List.mem_map.1 hu
  rfl
theorem i32_m63 (x : Int) (h₀ : 0 ≤ x) (h₁ : x < 2147483648) : bits .and .i32 x 63 = x % 64 := bits_mask .i32 31 (by decide) wraps_i32 6 (by decide) x h₀ h₁
set_option maxRecDepth 100000 in
set_option maxHeartbeats 1500000 in
theorem put_1 (base : Nat) (v : Value) (xs : List Nat) (r : Nat) (hlo : 0 ≤ r) (hhi : r < 128) (w : World) (ho : w.ownsRow base 5 1 v xs.length (vals .u8 xs)) (hl : xs.length ≤ 140737488355000) (hb : base ≤ w.heap.size) :
    Calls Tryd.prog 83 #[v, .int .i32 r] w (PutPost w base v xs (encN r)) := by
  have HO := Lib.hid ho
  have HL := Lib.hid hl
  have HB := Lib.hid hb
  have z1 : (r : Int) < 128 := by omega
  have e0 : IntKind.u8.wrap (r : Int) = (r : Int) := IntWalk.u8_in _ (by omega)
  have HE : Hid (encN r = [r]) := Lib.hid (by unfold encN; rw [if_pos (by omega)]; (try subst_vars); try rfl)
  clear ho hl hb hlo hhi
  have HP := Lib.hid (HO.out.alloc (.cells #[.int .u8 (r : Nat)] 5))
  obtain ⟨i0, hi, hz0, hz1, hz2⟩ := info_parts info_u8
  go_enter Tryd.func83, Tryd.ntmps83
  go_upto_region 2 with fail
  go_wp2_with (at_builtin; refine wpList_append_own _ rfl _ _ 35 rfl base 5 i0 (.int .u8 0) 1 1 Tryd.underlying35 hi hz0 hz1 hz2 rfl (by decide) _ _ _ rfl HP.out ⟨w.heap.size, 0, none⟩ 1 1 [.int .u8 (r : Nat)] rfl rfl ?c1 ?c2 ?c3 ?c4 ?c5 ?_)
  (try case c1 => exact World.news_of_block (cs := #[.int .u8 (r : Nat)]) (heap_alloc_new _ _))
  case c2 => first | rfl | exact one_mem [r] | exact ⟨rfl, rfl⟩ | exact ⟨rfl, rfl, rfl⟩ | exact ⟨rfl, rfl, rfl, rfl⟩
  case c3 => unfold maxLen; have := HL.out; omega
  case c4 => have := HL.out; omega
  case c5 => have := HB.out; simp; omega
  intro v2 w2 hown2 hg2 _
  have HOWN := Lib.hid hown2
  have HG := Lib.hid hg2
  clear hown2 hg2
  go_wp2_with fail
  go_ret
  exact ⟨_, rfl, by rw [HE.out, List.length_append, vals_append]; exact HOWN.out, grown_alloc HG.out⟩
set_option maxRecDepth 100000 in
set_option maxHeartbeats 1500000 in
theorem put_2 (base : Nat) (v : Value) (xs : List Nat) (r : Nat) (hlo : 128 ≤ r) (hhi : r < 2048) (w : World) (ho : w.ownsRow base 5 1 v xs.length (vals .u8 xs)) (hl : xs.length ≤ 140737488355000) (hb : base ≤ w.heap.size) :
    Calls Tryd.prog 83 #[v, .int .i32 r] w (PutPost w base v xs (encN r)) := by
  have HO := Lib.hid ho
  have HL := Lib.hid hl
  have HB := Lib.hid hb
  have z1 : ¬ ((r : Int) < 128) := by omega
  have z2 : (r : Int) < 2048 := by omega
  obtain ⟨y0, hy0⟩ : ∃ y0, y0 = r / 64 := ⟨_, rfl⟩
  have e0 : (r : Int) / 64 = (y0 : Int) := by omega
  have p0 : (y0 : Int) % 256 = (y0 : Int) := by omega
  obtain ⟨b0, hb0⟩ : ∃ b0, b0 = 192 + r / 64 := ⟨_, rfl⟩
  have o0 : bits .or .u8 192 (y0 : Int) = (b0 : Int) := by rw [u8_or192 _ (by omega) (by omega)]; omega
  obtain ⟨y1, hy1⟩ : ∃ y, y = r % 64 := ⟨_, rfl⟩
  have e1 : bits .and .i32 ((r : Int)) 63 = (y1 : Int) := by rw [i32_m63 _ (by omega) (by omega)]; omega
  have p1 : (y1 : Int) % 256 = (y1 : Int) := by omega
  obtain ⟨b1, hb1⟩ : ∃ b, b = 128 + r % 64 := ⟨_, rfl⟩
  have o1 : bits .or .u8 128 (y1 : Int) = (b1 : Int) := by rw [u8_or128 _ (by omega) (by omega)]; omega
  have HE : Hid (encN r = [b0, b1]) := Lib.hid (by unfold encN; rw [if_neg (by omega), if_pos (by omega)]; (try subst_vars); try rfl)
  clear ho hl hb hlo hhi hy0 hb0 hy1 hb1
  have HP := Lib.hid (HO.out.alloc (.cells #[.int .u8 (b0 : Nat), .int .u8 (b1 : Nat)] 5))
  obtain ⟨i0, hi, hz0, hz1, hz2⟩ := info_parts info_u8
  go_enter Tryd.func83, Tryd.ntmps83
  go_upto_region 4 with fail
  go_wp2_with (at_builtin; refine wpList_append_own _ rfl _ _ 35 rfl base 5 i0 (.int .u8 0) 1 1 Tryd.underlying35 hi hz0 hz1 hz2 rfl (by decide) _ _ _ rfl HP.out ⟨w.heap.size, 0, none⟩ 2 2 [.int .u8 (b0 : Nat), .int .u8 (b1 : Nat)] rfl rfl ?c1 ?c2 ?c3 ?c4 ?c5 ?_)
  (try case c1 => exact World.news_of_block (cs := #[.int .u8 (b0 : Nat), .int .u8 (b1 : Nat)]) (heap_alloc_new _ _))
  case c2 => first | rfl | exact one_mem [b0, b1] | exact ⟨rfl, rfl⟩ | exact ⟨rfl, rfl, rfl⟩ | exact ⟨rfl, rfl, rfl, rfl⟩
  case c3 => unfold maxLen; have := HL.out; omega
  case c4 => have := HL.out; omega
  case c5 => have := HB.out; simp; omega
  intro v2 w2 hown2 hg2 _
  have HOWN := Lib.hid hown2
  have HG := Lib.hid hg2
  clear hown2 hg2
  go_wp2_with fail
  go_ret
  exact ⟨_, rfl, by rw [HE.out, List.length_append, vals_append]; exact HOWN.out, grown_alloc HG.out⟩
set_option maxRecDepth 100000 in
set_option maxHeartbeats 1500000 in
theorem put_3 (base : Nat) (v : Value) (xs : List Nat) (r : Nat) (hlo : 2048 ≤ r) (hhi : r < 65536) (w : World) (ho : w.ownsRow base 5 1 v xs.length (vals .u8 xs)) (hl : xs.length ≤ 140737488355000) (hb : base ≤ w.heap.size) :
    Calls Tryd.prog 83 #[v, .int .i32 r] w (PutPost w base v xs (encN r)) := by
  have HO := Lib.hid ho
  have HL := Lib.hid hl
  have HB := Lib.hid hb
  have z1 : ¬ ((r : Int) < 128) := by omega
  have z2 : ¬ ((r : Int) < 2048) := by omega
  have z3 : (r : Int) < 65536 := by omega
  obtain ⟨y0, hy0⟩ : ∃ y0, y0 = r / 4096 := ⟨_, rfl⟩
  have e0 : (r : Int) / 4096 = (y0 : Int) := by omega
  have p0 : (y0 : Int) % 256 = (y0 : Int) := by omega
  obtain ⟨b0, hb0⟩ : ∃ b0, b0 = 224 + r / 4096 := ⟨_, rfl⟩
  have o0 : bits .or .u8 224 (y0 : Int) = (b0 : Int) := by rw [u8_or224 _ (by omega) (by omega)]; omega
  obtain ⟨y1, hy1⟩ : ∃ y, y = r / 64 % 64 := ⟨_, rfl⟩
  have e1 : bits .and .i32 ((r : Int) / 64) 63 = (y1 : Int) := by rw [i32_m63 _ (by omega) (by omega)]; omega
  have p1 : (y1 : Int) % 256 = (y1 : Int) := by omega
  obtain ⟨b1, hb1⟩ : ∃ b, b = 128 + r / 64 % 64 := ⟨_, rfl⟩
  have o1 : bits .or .u8 128 (y1 : Int) = (b1 : Int) := by rw [u8_or128 _ (by omega) (by omega)]; omega
  obtain ⟨y2, hy2⟩ : ∃ y, y = r % 64 := ⟨_, rfl⟩
  have e2 : bits .and .i32 ((r : Int)) 63 = (y2 : Int) := by rw [i32_m63 _ (by omega) (by omega)]; omega
  have p2 : (y2 : Int) % 256 = (y2 : Int) := by omega
  obtain ⟨b2, hb2⟩ : ∃ b, b = 128 + r % 64 := ⟨_, rfl⟩
  have o2 : bits .or .u8 128 (y2 : Int) = (b2 : Int) := by rw [u8_or128 _ (by omega) (by omega)]; omega
  have HE : Hid (encN r = [b0, b1, b2]) := Lib.hid (by unfold encN; rw [if_neg (by omega), if_neg (by omega), if_pos (by omega)]; (try subst_vars); try rfl)
  clear ho hl hb hlo hhi hy0 hb0 hy1 hb1 hy2 hb2
  have HP := Lib.hid (HO.out.alloc (.cells #[.int .u8 (b0 : Nat), .int .u8 (b1 : Nat), .int .u8 (b2 : Nat)] 5))
  obtain ⟨i0, hi, hz0, hz1, hz2⟩ := info_parts info_u8
  go_enter Tryd.func83, Tryd.ntmps83
  go_upto_region 6 with fail
  go_wp2_with (at_builtin; refine wpList_append_own _ rfl _ _ 35 rfl base 5 i0 (.int .u8 0) 1 1 Tryd.underlying35 hi hz0 hz1 hz2 rfl (by decide) _ _ _ rfl HP.out ⟨w.heap.size, 0, none⟩ 3 3 [.int .u8 (b0 : Nat), .int .u8 (b1 : Nat), .int .u8 (b2 : Nat)] rfl rfl ?c1 ?c2 ?c3 ?c4 ?c5 ?_)
  (try case c1 => exact World.news_of_block (cs := #[.int .u8 (b0 : Nat), .int .u8 (b1 : Nat), .int .u8 (b2 : Nat)]) (heap_alloc_new _ _))
  case c2 => first | rfl | exact one_mem [b0, b1, b2] | exact ⟨rfl, rfl⟩ | exact ⟨rfl, rfl, rfl⟩ | exact ⟨rfl, rfl, rfl, rfl⟩
  case c3 => unfold maxLen; have := HL.out; omega
  case c4 => have := HL.out; omega
  case c5 => have := HB.out; simp; omega
  intro v2 w2 hown2 hg2 _
  have HOWN := Lib.hid hown2
  have HG := Lib.hid hg2
  clear hown2 hg2
  go_wp2_with fail
  go_ret
  exact ⟨_, rfl, by rw [HE.out, List.length_append, vals_append]; exact HOWN.out, grown_alloc HG.out⟩
set_option maxRecDepth 100000 in
set_option maxHeartbeats 1500000 in
theorem put_4 (base : Nat) (v : Value) (xs : List Nat) (r : Nat) (hlo : 65536 ≤ r) (hhi : r < 1114112) (w : World) (ho : w.ownsRow base 5 1 v xs.length (vals .u8 xs)) (hl : xs.length ≤ 140737488355000) (hb : base ≤ w.heap.size) :
    Calls Tryd.prog 83 #[v, .int .i32 r] w (PutPost w base v xs (encN r)) := by
  have HO := Lib.hid ho
  have HL := Lib.hid hl
  have HB := Lib.hid hb
  have z1 : ¬ ((r : Int) < 128) := by omega
  have z2 : ¬ ((r : Int) < 2048) := by omega
  have z3 : ¬ ((r : Int) < 65536) := by omega
  obtain ⟨y0, hy0⟩ : ∃ y0, y0 = r / 262144 := ⟨_, rfl⟩
  have e0 : (r : Int) / 262144 = (y0 : Int) := by omega
  have p0 : (y0 : Int) % 256 = (y0 : Int) := by omega
  obtain ⟨b0, hb0⟩ : ∃ b0, b0 = 240 + r / 262144 := ⟨_, rfl⟩
  have o0 : bits .or .u8 240 (y0 : Int) = (b0 : Int) := by rw [u8_or240 _ (by omega) (by omega)]; omega
  obtain ⟨y1, hy1⟩ : ∃ y, y = r / 4096 % 64 := ⟨_, rfl⟩
  have e1 : bits .and .i32 ((r : Int) / 4096) 63 = (y1 : Int) := by rw [i32_m63 _ (by omega) (by omega)]; omega
  have p1 : (y1 : Int) % 256 = (y1 : Int) := by omega
  obtain ⟨b1, hb1⟩ : ∃ b, b = 128 + r / 4096 % 64 := ⟨_, rfl⟩
  have o1 : bits .or .u8 128 (y1 : Int) = (b1 : Int) := by rw [u8_or128 _ (by omega) (by omega)]; omega
  obtain ⟨y2, hy2⟩ : ∃ y, y = r / 64 % 64 := ⟨_, rfl⟩
  have e2 : bits .and .i32 ((r : Int) / 64) 63 = (y2 : Int) := by rw [i32_m63 _ (by omega) (by omega)]; omega
  have p2 : (y2 : Int) % 256 = (y2 : Int) := by omega
  obtain ⟨b2, hb2⟩ : ∃ b, b = 128 + r / 64 % 64 := ⟨_, rfl⟩
  have o2 : bits .or .u8 128 (y2 : Int) = (b2 : Int) := by rw [u8_or128 _ (by omega) (by omega)]; omega
  obtain ⟨y3, hy3⟩ : ∃ y, y = r % 64 := ⟨_, rfl⟩
  have e3 : bits .and .i32 ((r : Int)) 63 = (y3 : Int) := by rw [i32_m63 _ (by omega) (by omega)]; omega
  have p3 : (y3 : Int) % 256 = (y3 : Int) := by omega
  obtain ⟨b3, hb3⟩ : ∃ b, b = 128 + r % 64 := ⟨_, rfl⟩
  have o3 : bits .or .u8 128 (y3 : Int) = (b3 : Int) := by rw [u8_or128 _ (by omega) (by omega)]; omega
  have HE : Hid (encN r = [b0, b1, b2, b3]) := Lib.hid (by unfold encN; rw [if_neg (by omega), if_neg (by omega), if_neg (by omega)]; (try subst_vars); try rfl)
  clear ho hl hb hlo hhi hy0 hb0 hy1 hb1 hy2 hb2 hy3 hb3
  have HP := Lib.hid (HO.out.alloc (.cells #[.int .u8 (b0 : Nat), .int .u8 (b1 : Nat), .int .u8 (b2 : Nat), .int .u8 (b3 : Nat)] 5))
  obtain ⟨i0, hi, hz0, hz1, hz2⟩ := info_parts info_u8
  go_enter Tryd.func83, Tryd.ntmps83
  go_upto_region 7 with fail
  go_wp2_with (at_builtin; refine wpList_append_own _ rfl _ _ 35 rfl base 5 i0 (.int .u8 0) 1 1 Tryd.underlying35 hi hz0 hz1 hz2 rfl (by decide) _ _ _ rfl HP.out ⟨w.heap.size, 0, none⟩ 4 4 [.int .u8 (b0 : Nat), .int .u8 (b1 : Nat), .int .u8 (b2 : Nat), .int .u8 (b3 : Nat)] rfl rfl ?c1 ?c2 ?c3 ?c4 ?c5 ?_)
  (try case c1 => exact World.news_of_block (cs := #[.int .u8 (b0 : Nat), .int .u8 (b1 : Nat), .int .u8 (b2 : Nat), .int .u8 (b3 : Nat)]) (heap_alloc_new _ _))
  case c2 => first | rfl | exact one_mem [b0, b1, b2, b3] | exact ⟨rfl, rfl⟩ | exact ⟨rfl, rfl, rfl⟩ | exact ⟨rfl, rfl, rfl, rfl⟩
  case c3 => unfold maxLen; have := HL.out; omega
  case c4 => have := HL.out; omega
  case c5 => have := HB.out; simp; omega
  intro v2 w2 hown2 hg2 _
  have HOWN := Lib.hid hown2
  have HG := Lib.hid hg2
  clear hown2 hg2
  go_wp2_with fail
  go_ret
  exact ⟨_, rfl, by rw [HE.out, List.length_append, vals_append]; exact HOWN.out, grown_alloc HG.out⟩
theorem put_any (base : Nat) (v : Value) (xs : List Nat) (r : Nat) (hr : r < 1114112) (w : World) (ho : w.ownsRow base 5 1 v xs.length (vals .u8 xs)) (hl : xs.length ≤ 140737488355000) (hb : base ≤ w.heap.size) :
    Calls Tryd.prog 83 #[v, .int .i32 r] w (PutPost w base v xs (encN r)) := by
  by_cases h1 : r < 128
  · exact put_1 base v xs r (Nat.zero_le _) h1 w ho hl hb
  by_cases h2 : r < 2048
  · exact put_2 base v xs r (by omega) h2 w ho hl hb
  by_cases h3 : r < 65536
  · exact put_3 base v xs r (by omega) h3 w ho hl hb
  exact put_4 base v xs r (by omega) hr w ho hl hb
end
section
open Go.RowKit
theorem below_of_grown {w w' : World} (h : w.grownBy w' none) : Below w.heap.size w w' := ⟨h.os, h.tape, h.output, h.size, fun k hk => h.block k hk (by simp)⟩
def TextPost (w : World) (n : Nat) (e : Ending) (w' : World) : Prop := e = .returned (.tuple #[.string (strOf (encN n)), .bool true]) ∧ Below w.heap.size w w'
def FURel (w : World) (H : Int) (R : Nat) (v4 v5 v12 : Value) (wr : World) : Prop :=
  (v4 = .slice none 0 0 ∧ v5 = .int .i32 0 ∧ v12 = .int .i64 0 ∧ wr = w) ∨ (v4 = .slice none 0 0 ∧ v5 = .int .i32 H ∧ v12 = .int .i64 1 ∧ wr = w) ∨ (v5 = .int .i32 0 ∧ v12 = .int .i64 2 ∧ ∃ A cp, v4 = .slice A (encN R).length cp ∧ wr.ownsRow w.heap.size 5 1 (.slice A (encN R).length cp) (encN R).length (vals .u8 (encN R)) ∧ Below w.heap.size w wr)
set_option maxRecDepth 100000 in
set_option maxHeartbeats 1500000 in
theorem fromUnits_pair (h lo R : Nat) (h1 : 55296 ≤ h) (h2 : h ≤ 56319) (l1 : 56320 ≤ lo) (l2 : lo ≤ 57343) (hR : R = 65536 + (h - 55296) * 1024 + lo - 56320) (g : Nat) (w : World) (hb : Blk w g 56 #[.int .u16 h, .int .u16 lo]) :
    Calls Tryd.prog 66 #[.slice (some ⟨g, 0, none⟩) 2 2] w (TextPost w R) := by
  have c0 := hb.cell 0
  have c1 := hb.cell 1
  have HB := Lib.hid hb
  have hRl : R < 1114112 := by omega
  have HP := Lib.hid (fun wx => put_any w.heap.size (.slice none 0 0) [] R hRl wx ⟨rfl, .inl ⟨rfl, rfl⟩⟩ (Nat.zero_le _))
  have HBY := Lib.hid (encN_byte R hRl)
  have p1 : ¬ (56320 ≤ (h : Int)) := by omega
  have p2 : 55296 ≤ (h : Int) := by omega
  have p3 : (h : Int) < 56320 := by omega
  have p4 : 0 < (h : Int) := by omega
  have p5 : 56320 ≤ (lo : Int) := by omega
  have p6 : (lo : Int) ≤ 57343 := by omega
  have A1 : Hid (wrap32 ((h : Int) - 55296) = (h : Int) - 55296) := Lib.hid (by unfold wrap32; omega)
  have A2 : Hid (wrap32 (((h : Int) - 55296) * 1024) = ((h : Int) - 55296) * 1024) := Lib.hid (by unfold wrap32; omega)
  have A3 : Hid (wrap32 (65536 + ((h : Int) - 55296) * 1024) = 65536 + ((h : Int) - 55296) * 1024) := Lib.hid (by unfold wrap32; omega)
  have A4 : Hid (wrap32 (65536 + ((h : Int) - 55296) * 1024 + (lo : Int)) = 65536 + ((h : Int) - 55296) * 1024 + lo) := Lib.hid (by unfold wrap32; omega)
  have A5 : Hid (wrap32 (65536 + ((h : Int) - 55296) * 1024 + (lo : Int) - 56320) = (R : Int)) := Lib.hid (by unfold wrap32; omega)
  have B1 : Hid (wrap32 (h : Int) = (h : Int)) := Lib.hid (by unfold wrap32; omega)
  have B2 : Hid (wrap32 (lo : Int) = (lo : Int)) := Lib.hid (by unfold wrap32; omega)
  have HRZ : Hid ((R : Int) = 65536 + ((h : Int) - 55296) * 1024 + (lo : Int) - 56320) := Lib.hid (by omega)
  clear hb h1 h2 l1 l2 hR hRl
  generalize (h : Int) = H at *
  generalize (lo : Int) = L at *
  have HPR : Hid (Calls Tryd.prog 83 #[.slice none 0 0, .int .i32 (65536 + (H - 55296) * 1024 + L - 56320)] w (PutPost w w.heap.size (.slice none 0 0) [] (encN R))) := Lib.hid (by
    have h := HP.out w (Nat.le_refl _)
    rw [HRZ.out] at h
    exact h)
  clear HP HRZ
  go_enter Tryd.func66, Tryd.ntmps66
  go_wp2_with fail
  go_loopw [2, 3, 4, 5, 12] (fun _ _ v4 v5 v12 wr => FURel w H R v4 v5 v12 wr) (fun _ _ _ _ v12 _ => 2 - (intOf v12).toNat)
  case atStart => exact .inl ⟨rfl, rfl, rfl, rfl⟩
  case round =>
    rcases hrel with ⟨rfl, rfl, rfl, rfl⟩ | ⟨rfl, rfl, rfl, rfl⟩ | ⟨rfl, rfl, A, cp, rfl, hown, hbel⟩
    · have b1 := B1.out
      clear p5 p6
      go_wp2_with fail
      go_roundw
      case rel => exact .inr (.inl ⟨rfl, rfl, rfl, rfl⟩)
      case measure => simp [intOf]
    · have a1 := A1.out
      have a2 := A2.out
      have a3 := A3.out
      have a4 := A4.out
      have a5 := A5.out
      have b2 := B2.out
      go_wp2_with fail
      refine HPR.out.mono ?_
      rintro e w2 ⟨v', rfl, hown, hgr⟩
      obtain ⟨A2, k2, rfl, -, -, -, -⟩ := own_rd hown
      have HOWN := Lib.hid hown
      have HG := Lib.hid (below_of_grown hgr)
      clear hown hgr
      go_wp2_with fail
      go_roundw
      case rel => exact .inr (.inr ⟨rfl, rfl, A2, k2, rfl, HOWN.out, HG.out⟩)
      case measure => simp [intOf]
    · have HCV := row_string_any HBY.out rfl hown
      have HBEL := Lib.hid hbel
      clear hown hbel
      go_wp2_with fail
      go_ret2
      exact ⟨rfl, HBEL.out⟩
end
section
open Go.RowKit Go.Lib
theorem u8n (x : Nat) (h : x < 256) : (UInt8.ofNat x).toNat = x := by simp; omega
theorem valid_pt (r : Nat) (h : isPt r = true) : Utf8.valid (r : Int) = true := by
  have h := of_decide_eq_true h
  unfold Utf8.valid
  simp
  omega
theorem enc_str (r : Nat) (h : isPt r = true) : Utf8.encode (r : Int) = strOf (encN r) := by
  unfold Utf8.encode encN strOf
  rw [if_pos (valid_pt r h)]
  simp only [Int.toNat_natCast]
  by_cases h1 : r < 128
  · rw [if_pos h1, if_pos h1]; rfl
  rw [if_neg h1, if_neg h1]
  by_cases h2 : r < 2048
  · rw [if_pos h2, if_pos h2]; rfl
  rw [if_neg h2, if_neg h2]
  by_cases h3 : r < 65536
  · rw [if_pos h3, if_pos h3]; rfl
  rw [if_neg h3, if_neg h3]; rfl
theorem dec_enc (r : Nat) (h : isPt r = true) : Utf8.decode (strOf (encN r)) 0 = (r, (strOf (encN r)).size) := by
  have hv := valid_pt r h
  have h := of_decide_eq_true h
  unfold encN
  by_cases h1 : r < 128
  · rw [if_pos h1]
    have a0 : (((strOf [r]).get! (0 + 0)).toNat) = r := u8n r (by omega)
    unfold Utf8.decode
    simp only [a0, if_pos h1]
    rfl
  rw [if_neg h1]
  by_cases h2 : r < 2048
  · rw [if_pos h2]
    have a0 : (((strOf [192 + r / 64, 128 + r % 64]).get! (0 + 0)).toNat) = 192 + r / 64 := u8n _ (by omega)
    have a1 : (((strOf [192 + r / 64, 128 + r % 64]).get! (0 + 1)).toNat) = 128 + r % 64 := u8n _ (by omega)
    have hs : (strOf [192 + r / 64, 128 + r % 64]).size = 2 := rfl
    unfold Utf8.decode
    simp only [a0, a1, hs]
    have e1 : (192 + r / 64) / 32 = 6 := by omega
    have e2 : (128 + r % 64) / 64 = 2 := by omega
    have e3 : (192 + r / 64) % 32 * 64 + (128 + r % 64) % 64 = r := by omega
    rw [if_neg (by omega), e1, e2, e3]
    simp
    omega
  rw [if_neg h2]
  by_cases h3 : r < 65536
  · rw [if_pos h3]
    have a0 : (((strOf [224 + r / 4096, 128 + r / 64 % 64, 128 + r % 64]).get! (0 + 0)).toNat) = 224 + r / 4096 := u8n _ (by omega)
    have a1 : (((strOf [224 + r / 4096, 128 + r / 64 % 64, 128 + r % 64]).get! (0 + 1)).toNat) = 128 + r / 64 % 64 := u8n _ (by omega)
    have a2 : (((strOf [224 + r / 4096, 128 + r / 64 % 64, 128 + r % 64]).get! (0 + 2)).toNat) = 128 + r % 64 := u8n _ (by omega)
    have hs : (strOf [224 + r / 4096, 128 + r / 64 % 64, 128 + r % 64]).size = 3 := rfl
    unfold Utf8.decode
    simp only [a0, a1, a2, hs]
    have e0 : (224 + r / 4096) / 32 = 7 := by omega
    have e1 : (224 + r / 4096) / 16 = 14 := by omega
    have e2 : (128 + r / 64 % 64) / 64 = 2 := by omega
    have e3 : (128 + r % 64) / 64 = 2 := by omega
    have e4 : (224 + r / 4096) % 16 * 4096 + (128 + r / 64 % 64) % 64 * 64 + (128 + r % 64) % 64 = r := by omega
    rw [if_neg (by omega), e0, e1, e2, e3, e4, hv]
    simp
    omega
  rw [if_neg h3]
  have a0 : (((strOf [240 + r / 262144, 128 + r / 4096 % 64, 128 + r / 64 % 64, 128 + r % 64]).get! (0 + 0)).toNat) = 240 + r / 262144 := u8n _ (by omega)
  have a1 : (((strOf [240 + r / 262144, 128 + r / 4096 % 64, 128 + r / 64 % 64, 128 + r % 64]).get! (0 + 1)).toNat) = 128 + r / 4096 % 64 := u8n _ (by omega)
  have a2 : (((strOf [240 + r / 262144, 128 + r / 4096 % 64, 128 + r / 64 % 64, 128 + r % 64]).get! (0 + 2)).toNat) = 128 + r / 64 % 64 := u8n _ (by omega)
  have a3 : (((strOf [240 + r / 262144, 128 + r / 4096 % 64, 128 + r / 64 % 64, 128 + r % 64]).get! (0 + 3)).toNat) = 128 + r % 64 := u8n _ (by omega)
  have hs : (strOf [240 + r / 262144, 128 + r / 4096 % 64, 128 + r / 64 % 64, 128 + r % 64]).size = 4 := rfl
  unfold Utf8.decode
  simp only [a0, a1, a2, a3, hs]
  have e0 : (240 + r / 262144) / 32 = 7 := by omega
  have e1 : (240 + r / 262144) / 16 = 15 := by omega
  have e8 : (240 + r / 262144) / 8 = 30 := by omega
  have e2 : (128 + r / 4096 % 64) / 64 = 2 := by omega
  have e3 : (128 + r / 64 % 64) / 64 = 2 := by omega
  have e5 : (128 + r % 64) / 64 = 2 := by omega
  have e4 : (240 + r / 262144) % 8 * 262144 + (128 + r / 4096 % 64) % 64 * 4096 + (128 + r / 64 % 64) % 64 * 64 + (128 + r % 64) % 64 = r := by omega
  rw [if_neg (by omega), e0, e1, e2, e3, e5, e8, e4, hv]
  simp
  omega
theorem runes_one (r : Nat) (h : isPt r = true) : runesBytes [(r : Int)] = strOf (encN r) := by
  show ByteArray.empty ++ Utf8.encode (r : Int) = _
  rw [enc_str r h]
  simp
theorem own_iterAt' {w : World} {B e size n : Nat} {v : Value} {xs : List Value} {k : Nat} {s : ByteArray} {pos : Nat} (h : w.ownsRow B e size v n xs) (hk : w.heap[k]? = some (.stringIter s pos)) (pos' : Nat) : (w.iterAt k s pos').ownsRow B e size v n xs := by
  refine ⟨h.1, ?_⟩
  rcases h.2 with h0 | ⟨g, cap, cur, hv, hb, hg, rest⟩
  · exact .inl h0
  · refine .inr ⟨g, cap, cur, hv, hb, ?_, rest⟩
    rw [Lib.iterAt_other _ _ _ _ _ (fun e => by subst e; rw [hk] at hg; cases hg)]
    exact hg
theorem own_ne_iter' {w : World} {B e size n : Nat} {v : Value} {xs : List Value} {k : Nat} {s : ByteArray} {pos : Nat} (h : w.ownsRow B e size v n xs) (hk : w.heap[k]? = some (.stringIter s pos)) : some k ≠ v.ownBlock := by
  rcases h.2 with ⟨rfl, _⟩ | ⟨g, cap, cur, rfl, hb, hg, rest⟩
  · simp [Value.ownBlock]
  · intro e
    simp only [Value.ownBlock, Option.some.injEq] at e
    subst e
    rw [hk] at hg
    cases hg
def mS : Value → Nat
  | .slice _ 0 _ => 1
  | _ => 0
def TRel (w w1 : World) (r : Nat) (Z : ByteArray) (v6 : Value) (wr : World) : Prop :=
  (v6 = .slice (some ⟨w.heap.size, 0, none⟩) 0 1 ∧ wr = w1.iter Z 0) ∨ (∃ A cp, v6 = .slice A (encN r).length cp ∧ wr.ownsRow w.heap.size 5 1 (.slice A (encN r).length cp) (encN r).length (vals .u8 (encN r)) ∧ wr.heap[w1.heap.size]? = some (.stringIter Z Z.size) ∧ Below w.heap.size w wr)
set_option maxRecDepth 100000 in
set_option maxHeartbeats 1500000 in
theorem text_one (r : Nat) (hr : isPt r = true) (g : Nat) (w : World) (hb : Blk w g 21 #[.int .i32 r]) :
    Calls Tryd.prog 65 #[.slice (some ⟨g, 0, none⟩) 1 1] w (TextPost w r) := by
  have hrl : r < 1114112 := by have := of_decide_eq_true hr; omega
  have c0 := hb.cell 0
  have HB := Lib.hid hb
  have HPT := Lib.hid (fun wx => point_any r wx)
  rw [hr] at HPT
  have HBY := Lib.hid (encN_byte r hrl)
  have HLN := Lib.hid (encN_len r)
  have HDE := Lib.hid (dec_enc r hr)
  have HRU := Lib.hid (runes_one r hr)
  clear hb
  obtain ⟨i0, hi, hz0, hz1, hz2⟩ := info_parts info_u8
  go_enter Tryd.func65, Tryd.ntmps65
  go_wp2_with fail
  go_loop [2, 3, 11] (fun _ _ v11 => v11 = .int .i64 0 ∨ v11 = .int .i64 1) (fun _ _ v11 => 1 - (intOf v11).toNat)
  case atStart => exact .inl rfl
  case round =>
    rcases hrel with rfl | rfl
    · go_wp2_with fail
      refine (HPT.out _).mono ?_
      rintro e w' ⟨rfl, rfl⟩
      go_wp2_with fail
      go_round
      case rel => exact .inr rfl
      case measure => simp [intOf]
    · go_upto_region 7 with fail
      go_wp2_with (at_make; refine wpList_make_own _ rfl _ _ 35 rfl w.heap.size 5 i0 (.int .u8 0) 1 Tryd.underlying35 hi hz0 hz1 _ _ _ 1 rfl rfl ?c0 ?c1 ?c2 ?c3 ?_)
      (try case c0 => rfl)
      (try case c1 => rw [hz2]; decide)
      case c2 => unfold maxLen; decide
      (try case c3 => exact Nat.le_refl _)
      intro w1 hown hgr
      have HG1 := Lib.hid (below_of_grown hgr)
      have HO1 := Lib.hid hown
      have hb1 : Blk w1 g 21 #[.int .i32 r] := HB.out.below HG1.out HB.out.lt
      have HCV := run_convert_runes (P := Tryd.prog) w1 114 9 21 ⟨g, 0, none⟩ 1 1 [(r : Int)] (Nat.le_refl _) Tryd.underlying114 Tryd.underlying21 Tryd.underlying9 (by
        intro j hj
        obtain rfl : j = 0 := by simpa using hj
        exact hb1.cell 0)
      have e1 : [(r : Int)].take 1 = [(r : Int)] := rfl
      rw [e1, HRU.out] at HCV
      have HSZ : Hid ((strOf (encN r)).size = (encN r).length) := Lib.hid (by show ((encN r).map UInt8.ofNat).toArray.size = _; simp)
      clear hown hgr hb1 e1 HRU c0
      obtain ⟨Z, hZ⟩ : ∃ Z, strOf (encN r) = Z := ⟨_, rfl⟩
      have HDE2 : Hid (Utf8.decode Z 0 = (r, Z.size)) := Lib.hid (by rw [← hZ]; exact HDE.out)
      have HSZ2 : Hid (Z.size = (encN r).length) := Lib.hid (by rw [← hZ]; exact HSZ.out)
      rw [hZ] at HCV
      have HZ := Lib.hid hZ
      clear hZ HDE HSZ
      go_wp2_with fail
      go_loopw [6] (fun v6 wr => TRel w w1 r Z v6 wr) (fun v6 _ => mS v6)
      case atStart => exact .inl ⟨rfl, rfl⟩
      case round =>
        rcases hrel with ⟨rfl, rfl⟩ | ⟨A, cp, rfl, hown, hit, hbel⟩
        · have hpos : 0 < Z.size := by have := HSZ2.out; have := HLN.out; omega
          have hnx := fun ty => run_next_any_at (P := Tryd.prog) (w1.iter Z 0) w1.heap.size Z 0 ty (World.iter_heap w1 Z 0) hpos
          rw [HDE2.out] at hnx
          simp only [Nat.zero_add] at hnx
          have HOI : Hid (((w1.iter Z 0).iterAt w1.heap.size Z Z.size).ownsRow w.heap.size 5 1 (.slice (some ⟨w.heap.size, 0, none⟩) 0 1) 0 []) := Lib.hid (own_iterAt' (HO1.out.alloc _) (World.iter_heap w1 Z 0) _)
          have HIT : Hid (((w1.iter Z 0).iterAt w1.heap.size Z Z.size).heap[w1.heap.size]? = some (.stringIter Z Z.size)) := Lib.hid (Lib.iterAt_heap _ _ _ _ _ (World.iter_heap w1 Z 0))
          have HBI : Hid (Below w.heap.size w ((w1.iter Z 0).iterAt w1.heap.size Z Z.size)) := Lib.hid (Lib.below_iterAt (HG1.out.alloc HG1.out.size _) HG1.out.size _ _)
          have HPU := Lib.hid (put_any w.heap.size _ [] r hrl _ HOI.out (Nat.zero_le _) HBI.out.size)
          have HNE := Lib.hid (own_ne_iter' HOI.out HIT.out)
          clear hpos hrl
          go_wp2_with fail
          refine HPU.out.mono ?_
          rintro e w4 ⟨v', rfl, hown, hgr⟩
          obtain ⟨A2, k2, rfl, -, -, -, -⟩ := own_rd hown
          have HO4 := Lib.hid hown
          have HI4 : Hid (w4.heap[w1.heap.size]? = some (.stringIter Z Z.size)) := Lib.hid (by
            rw [hgr.block w1.heap.size (Array.getElem?_eq_some_iff.1 HIT.out).1 HNE.out]; exact HIT.out)
          have HB4 : Hid (Below w.heap.size w w4) := Lib.hid (HBI.out.grown hgr HBI.out.size (fun q hq => (HOI.out.lt q hq).1))
          clear hown hgr
          go_wp2_with fail
          go_roundw
          case rel => exact .inr ⟨A2, k2, rfl, HO4.out, HI4.out, HB4.out⟩
          case measure =>
            have := HLN.out.1
            obtain ⟨n, hn⟩ : ∃ n, (encN r).length = n + 1 := ⟨(encN r).length - 1, by omega⟩
            simp [mS, hn]
        · have hnx := fun ty => run_next_end_at (P := Tryd.prog) wr w1.heap.size Z Z.size ty hit (Nat.lt_irrefl _)
          have HBEL := Lib.hid hbel
          have HCV2 := row_string_any HBY.out rfl hown
          rw [HZ.out] at HCV2
          clear hown hit hbel
          go_wp2_with fail
          go_ret2
          exact ⟨by rw [HZ.out] <;> rfl, HBEL.out⟩
end
end Go.Proofs.YtjfeebbhkolmoaaDoor.E
