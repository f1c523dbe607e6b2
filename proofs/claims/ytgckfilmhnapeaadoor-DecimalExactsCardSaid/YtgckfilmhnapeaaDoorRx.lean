/- The reference's digits: crucibleref07.twice, halved. -/
import Derived.Test.YtgckfilmhnapeaaDoorXv
import Derived.Test.YtgckfilmhnapeaaDoorNat
import Derived.Test.YtgckfilmhnapeaaDoorRp
import Derived.Test.YtgckfilmhnapeaaDoorDec4
import Derived.Test.YtgckfilmhnapeaaDoorStrB
namespace Go.Proofs.YtgckfilmhnapeaaDoor
open Go.RowKit Go.Lib
set_option linter.unusedVariables false

def TwRel (w : World) (g D n : Nat) (v3 v5 : Value) (wr : World) : Prop :=
  ∃ j : Nat, j ≤ n ∧ v3 = .int .i64 ((cr2 D j : Nat) : Int) ∧ ((j = n ∧ v5 = .int .i64 (-1)) ∨ (∃ i : Nat, j + i + 1 = n ∧ v5 = .int .i64 i)) ∧ wr.ownsRow w.heap.size 3 1 (.slice (some ⟨g, 0, none⟩) (n + 1) (n + 1)) (n + 1) (vals .i64 (tw D n j)) ∧ Below w.heap.size w wr

set_option maxRecDepth 100000 in
set_option maxHeartbeats 1500000 in
theorem twice_ref (A : Option Addr) (c D n : Nat) (w : World) (hr : Rd w A (vals .i64 (hd D n))) (hD : D < 10 ^ n) (hn : n ≤ 100000) :
    Calls Tryd.prog 38 #[.slice A n c] w (SlPost w .i64 (hd (2 * D) (n + 1))) := by
  have HR := Lib.hid hr
  have HEND := Lib.hid (cr2_end D n hD)
  obtain ⟨i0, hi, hz0, hz1, hz2⟩ := info_parts info_int
  clear hr hD
  go_enter Tryd.func38, Tryd.ntmps38
  go_wp2_with (at_make; refine wpList_make_full _ rfl _ _ 69 rfl w.heap.size 3 i0 (.int .i64 0) 1 Tryd.underlying69 hi hz0 hz1 _ _ _ _ (n + 1) rfl rfl ?c0 ?c1 ?c2 ?c3 ?c4 ?_)
  case c0 => omega
  case c1 => omega
  case c2 => rw [hz2]; omega
  case c3 => unfold maxLen; omega
  case c4 => exact Nat.le_refl _
  intro w1 hown1 hg1
  rw [made_vals, ← tw_zero D n] at hown1
  have HO1 := Lib.hid hown1
  have HB1 : Hid (Below w.heap.size w w1) := Lib.hid ((Below.refl _ _).grown hg1 (Nat.le_refl _) (fun _ h => by cases h))
  clear hown1 hg1
  obtain ⟨g, hg⟩ : ∃ g, w.heap.size = g := ⟨_, rfl⟩
  have HG := Lib.hid hg
  rw [hg] at HO1 HB1 ⊢
  clear hg
  go_wp2_with fail
  go_loopw [3, 5] (fun v3 v5 wr => TwRel w g D n v3 v5 wr) (fun _ v5 _ => (RowKit.intOf v5 + 1).toNat)
  case atStart =>
    refine ⟨0, Nat.zero_le _, by rw [cr2_zero]; rfl, ?_, by rw [HG.out]; exact HO1.out, by rw [HG.out]; exact HB1.out⟩
    by_cases h0 : n = 0
    · exact Or.inl ⟨h0.symm, by congr 1; omega⟩
    · exact Or.inr ⟨n - 1, by omega, by congr 1; omega⟩
  case round =>
    obtain ⟨j, hj, rfl, hji, hown, hbel⟩ := hrel
    have HO := Lib.hid hown
    have HB := Lib.hid hbel
    clear hown hbel
    rcases hji with ⟨rfl, rfl⟩ | ⟨i, hji, rfl⟩
    · have hfz := HO.out.frozenAt 0
      have hcell := HO.out.cellAt 0 (by omega)
      rw [vals_get _ _ _ (by rw [tw_len _ _ _ (by omega)]; omega)] at hcell
      have hset := tw_set D j j (by omega)
      rw [Nat.sub_self, HEND.out, tw_full] at hset
      have HST : Hid ((wr.setCell ⟨g, 0, none⟩ (.int .i64 ((cr2 D j : Nat) : Int))).ownsRow w.heap.size 3 1 (.slice (some ⟨g, 0, none⟩) (j + 1) (j + 1)) (j + 1) (vals .i64 (hd (2 * D) (j + 1)))) := Lib.hid (by
        have h := (HO.out.stored 0 (.int .i64 ((cr2 D j : Nat) : Int))).1
        rw [vals_set, hset] at h
        exact h)
      clear hset
      have hn0 : (0 : Int) < (j : Int) + 1 := by omega
      generalize cr2 D j = cr at *
      go_wp2_with fail
      go_ret
      obtain ⟨A', c', he, hnc, hcm', hcl, hrd⟩ := own_rd HST.out
      unfold maxLen at hcm'
      injection he with he1 he2 he3
      subst he1 he3
      exact ⟨_, _, by rw [hd_len] <;> rfl, hrd, by rw [hd_len]; exact Nat.le_refl _, by omega, HB.out.setCell (p := ⟨g, 0, none⟩) (by rw [HG.out]; exact Nat.le_refl _) _⟩
    · obtain ⟨b, off, rfl, hcell⟩ := (HR.out.below HB.out).val (show i < (hd D n).length by rw [hd_len]; omega)
      rw [hd_get D n i (by omega), show n - 1 - i = j by omega] at hcell
      have hset := tw_set D n j (by omega)
      obtain ⟨s1, s2⟩ := cr2_step D j
      rw [← s1, show n - j = i + 1 by omega] at hset
      have hd9 : D / 10 ^ j % 10 < 10 := Nat.mod_lt _ (by decide)
      have hc1 := cr2_le D j
      have hfz := HO.out.frozenAt (i + 1)
      have hcell2 := HO.out.cellAt (i + 1) (by omega)
      rw [vals_get _ _ _ (by rw [tw_len _ _ _ (by omega)]; omega)] at hcell2
      generalize D / 10 ^ j % 10 = d at *
      generalize cr2 D j = cr at *
      generalize hcnE : cr2 D (j + 1) = cn at *
      have HCN := Lib.hid hcnE
      clear hcnE
      obtain ⟨x, hx⟩ : ∃ x, 2 * d + cr = x := ⟨_, rfl⟩
      rw [hx] at s1 s2 hset
      obtain ⟨y, hy⟩ : ∃ y, x % 10 = y := ⟨_, rfl⟩
      rw [hy] at hset
      have hxI : 2 * (d : Int) + (cr : Int) = (x : Int) := by omega
      have i1 : (x : Int) % 10 = (y : Int) := by omega
      have i2 : (x : Int) / 10 = (cn : Int) := by omega
      have i3 : (x : Int).tmod 10 = (y : Int) := by rw [Int.tmod_eq_emod_of_nonneg (by omega)]; exact i1
      have i4 : (x : Int).tdiv 10 = (cn : Int) := by rw [Int.tdiv_eq_ediv_of_nonneg (by omega)]; exact i2
      have hx0 : (0 : Int) ≤ (x : Int) := by omega
      have hx9 : (x : Int) ≤ 19 := by omega
      have hcn : (cn : Int) ≤ 2 := by omega
      have hcn0 : (0 : Int) ≤ (cn : Int) := by omega
      have hy0 : (0 : Int) ≤ (y : Int) := by omega
      have hy9 : (y : Int) ≤ 9 := by omega
      have HST : Hid ((wr.setCell ⟨g, i + 1, none⟩ (.int .i64 (y : Int))).ownsRow w.heap.size 3 1 (.slice (some ⟨g, 0, none⟩) (n + 1) (n + 1)) (n + 1) (vals .i64 (tw D n (j + 1)))) := Lib.hid (by
        have h := (HO.out.stored (i + 1) (.int .i64 ((y : Nat) : Int))).1
        rw [vals_set, hset] at h
        exact h)
      have HBN : Hid (Below w.heap.size w (wr.setCell ⟨g, i + 1, none⟩ (.int .i64 (y : Int)))) := Lib.hid (HB.out.setCell (p := ⟨g, i + 1, none⟩) (by rw [HG.out]; exact Nat.le_refl _) _)
      have r1 : (i : Int) < (n : Int) := by omega
      have r2 : (i : Int) + 1 < (n : Int) + 1 := by omega
      have r3 : ((i : Int) + 1).toNat = i + 1 := by omega
      have r4 : (0 : Int) ≤ (i : Int) + 1 := by omega
      clear hset s1 s2 hx hy
      go_wp2_with fail
      go_roundw
      case rel => exact ⟨j + 1, by omega, by rw [HCN.out], by
        by_cases h0 : i = 0
        · exact Or.inl ⟨by omega, by first | (congr 1; omega) | (congr 1)⟩
        · exact Or.inr ⟨i - 1, by omega, by first | (congr 1; omega) | (congr 1)⟩, HST.out, HBN.out⟩
      case measure => simp [RowKit.intOf]

def HvRel (w : World) (D n : Nat) (v3 v4 v5 : Value) (wr : World) : Prop :=
  ∃ i : Nat, i ≤ n ∧ v3 = .int .i64 ((pfx D n i % 2 : Nat) : Int) ∧ v5 = .int .i64 i ∧ wr.ownsRow w.heap.size 3 1 v4 i (vals .i64 (hd (pfx D n i / 2) i)) ∧ Below w.heap.size w wr

set_option maxRecDepth 100000 in
set_option maxHeartbeats 1500000 in
theorem halved_ref (A : Option Addr) (c D n : Nat) (w : World) (hr : Rd w A (vals .i64 (hd D n))) (hD : D < 10 ^ n) (hn : n ≤ 100000) :
    Calls Tryd.prog 39 #[.slice A n c] w (SlPost w .i64 (hd (hvD D) (hvN D n))) := by
  have HR := Lib.hid hr
  have HZ := Lib.hid (pfx_zero D n hD)
  obtain ⟨i0, hi, hz0, hz1, hz2⟩ := info_parts info_int
  clear hr hD
  go_enter Tryd.func39, Tryd.ntmps39
  go_wp2_with fail
  go_loopw [3, 4, 5] (fun v3 v4 v5 wr => HvRel w D n v3 v4 v5 wr) (fun _ _ v5 _ => n - (RowKit.intOf v5).toNat)
  case atStart => exact ⟨0, Nat.zero_le _, by rw [HZ.out]; rfl, rfl, ⟨rfl, .inl ⟨rfl, rfl⟩⟩, Below.refl _ _⟩
  case round =>
    obtain ⟨i, hin, rfl, rfl, hown, hbel⟩ := hrel
    have HO := Lib.hid hown
    have HB := Lib.hid hbel
    clear hown hbel
    by_cases hlt : i < n
    · obtain ⟨b, off, rfl, hcell⟩ := (HR.out.below HB.out).val (show i < (hd D n).length by rw [hd_len]; omega)
      have hd9 := hd_get_lt D n i hlt
      obtain ⟨s1, s2⟩ := half_step D n i hlt
      have hp2 : pfx D n i % 2 ≤ 1 := by omega
      generalize hdd : (hd D n).getD i 0 = d at *
      generalize pfx D n i % 2 = lf at *
      obtain ⟨x, hx⟩ : ∃ x, 10 * lf + d = x := ⟨_, rfl⟩
      rw [hx] at s1 s2
      have hxI : 10 * (lf : Int) + (d : Int) = (x : Int) := by omega
      have hx19 : x ≤ 19 := by omega
      obtain ⟨y, hy⟩ : ∃ y, x / 2 = y := ⟨_, rfl⟩
      obtain ⟨z, hz⟩ : ∃ z, x % 2 = z := ⟨_, rfl⟩
      rw [hy] at s1
      rw [hz] at s2
      have i1 : (x : Int) % 2 = (z : Int) := by omega
      have i2 : (x : Int) / 2 = (y : Int) := by omega
      have i3 : (x : Int).tmod 2 = (z : Int) := by rw [Int.tmod_eq_emod_of_nonneg (by omega)]; exact i1
      have i4 : (x : Int).tdiv 2 = (y : Int) := by rw [Int.tdiv_eq_ediv_of_nonneg (by omega)]; exact i2
      have hx0 : (0 : Int) ≤ (x : Int) := by omega
      have hx9 : (x : Int) ≤ 19 := by omega
      have hl1 : (lf : Int) ≤ 1 := by omega
      have hd1 : (d : Int) ≤ 9 := by omega
      have hy0 : (0 : Int) ≤ (y : Int) := by omega
      have hy9 : (y : Int) ≤ 9 := by omega
      have hz0' : (0 : Int) ≤ (z : Int) := by omega
      have hz9 : (z : Int) ≤ 1 := by omega
      have hltI : (i : Int) < (n : Int) := by omega
      have S1 := Lib.hid s1
      have S2 := Lib.hid s2
      clear s1 s2 hx hy hz hdd hd9
      go_wp2_with (at_builtin; refine wpList_append_own _ rfl _ _ 69 rfl w.heap.size 3 i0 (.int .i64 0) 1 8 Tryd.underlying69 hi hz0 hz1 hz2 rfl (by decide) _ _ _ rfl (HO.out.alloc _) ⟨wr.heap.size, 0, none⟩ 1 1 [.int .i64 (y : Int)] rfl rfl ?c1 ?c2 ?c3 ?c4 ?c5 ?_)
      case c1 => exact (cell_one_new _ _ _)
      case c2 => exact one_oneCell rfl
      case c3 => unfold maxLen; omega
      case c4 => omega
      case c5 => have := HB.out.size; simp; omega
      intro v2 w2 hown2 hg2 _
      have HO2 := Lib.hid hown2
      have HB2 := Lib.hid ((HB.out.alloc HB.out.size _).grown hg2 (by have := HB.out.size; simp; omega) (fun q hq => (HO.out.lt q hq).1))
      clear hown2 hg2
      go_wp2_with fail
      go_roundw
      case rel =>
        refine ⟨i + 1, by omega, by rw [S2.out], by go_num, ?_, HB2.out⟩
        rw [S1.out, vals_append, vals_one]
        exact HO2.out
      case measure => simp [RowKit.intOf]; omega
    · obtain rfl : i = n := by omega
      rw [pfx_full] at HO ⊢
      by_cases ho : D % 2 = 1
      · have HF := Lib.hid (half_odd D i ho)
        have HN : Hid (hvN D i = i + 1) := Lib.hid (by unfold hvN; rw [if_pos ho])
        rw [ho]
        clear ho
        go_wp2_with (at_builtin; refine wpList_append_own _ rfl _ _ 69 rfl w.heap.size 3 i0 (.int .i64 0) 1 8 Tryd.underlying69 hi hz0 hz1 hz2 rfl (by decide) _ _ _ rfl (HO.out.alloc _) ⟨wr.heap.size, 0, none⟩ 1 1 [.int .i64 5] rfl rfl ?c1 ?c2 ?c3 ?c4 ?c5 ?_)
        case c1 => exact (cell_one_new _ _ _)
        case c2 => exact one_oneCell rfl
        case c3 => unfold maxLen; omega
        case c4 => omega
        case c5 => have := HB.out.size; simp; omega
        intro v2 w2 hown2 hg2 _
        have HB2 := Lib.hid ((HB.out.alloc HB.out.size _).grown hg2 (by have := HB.out.size; simp; omega) (fun q hq => (HO.out.lt q hq).1))
        obtain ⟨A', c', rfl, hnc, hcm', hcl, hrd⟩ := own_rd hown2
        have HRD := Lib.hid hrd
        unfold maxLen at hcm'
        clear hown2 hg2 hrd
        go_wp2_with fail
        go_ret
        refine ⟨A', c', by rw [hd_len, HN.out] <;> rfl, ?_, by rw [hd_len, HN.out]; exact hnc, by omega, HB2.out⟩
        rw [HF.out, vals_append]
        exact HRD.out
      · have HF := Lib.hid (half_even D i ho)
        have HN : Hid (hvN D i = i) := Lib.hid (by unfold hvN; rw [if_neg ho])
        have ho0 : D % 2 = 0 := by omega
        rw [ho0]
        clear ho ho0
        obtain ⟨A', c', rfl, hnc, hcm', hcl, hrd⟩ := own_rd HO.out
        have HRD := Lib.hid hrd
        unfold maxLen at hcm'
        clear hrd
        go_wp2_with fail
        go_ret
        refine ⟨A', c', by rw [hd_len, HN.out] <;> rfl, ?_, by rw [hd_len, HN.out]; exact hnc, by omega, HB.out⟩
        rw [HF.out]
        exact HRD.out
end Go.Proofs.YtgckfilmhnapeaaDoor

namespace Go.Proofs.YtgckfilmhnapeaaDoor
open Go.RowKit Go.Lib
set_option linter.unusedVariables false

def X1Rel (w1 : World) (M : Nat) (v7 v10 : Value) (wr : World) : Prop :=
  ∃ (j : Nat) (A : Option Addr) (c : Nat), j ≤ 16 ∧ v7 = .int .u64 ((M / 10 ^ j : Nat) : Int) ∧ v10 = .slice A j c ∧ Rd wr A (vals .i64 (hd M j)) ∧ Below w1.heap.size w1 wr
def X2Rel (w1 : World) (M n a : Nat) (E0 : Int) (v8 v10 v11 : Value) (wr : World) : Prop :=
  ∃ (i : Nat) (A : Option Addr) (c : Nat), i ≤ a ∧ v8 = .int .i64 (E0 - i) ∧ v11 = .int .i64 ((n + i : Nat) : Int) ∧ v10 = .slice A (n + i) c ∧ Rd wr A (vals .i64 (hd (M * 2 ^ i) (n + i))) ∧ Below w1.heap.size w1 wr
def X3Rel (w1 : World) (M n b : Nat) (v8 v10 : Value) (wr : World) : Prop :=
  ∃ (t D k : Nat) (A : Option Addr) (c : Nat), t ≤ b ∧ v8 = .int .i64 ((t : Int) - b) ∧ v10 = .slice A k c ∧ Rd wr A (vals .i64 (hd D k)) ∧ (D < 10 ^ k ∧ D ≠ 0 ∧ k ≤ n + t ∧ Dec D k n M t) ∧ Below w1.heap.size w1 wr
def X4Rel (w3 : World) (D k : Nat) (v12 v13 : Value) (wr : World) : Prop :=
  ∃ i : Nat, i ≤ k ∧ v13 = .int .i64 i ∧ wr.ownsRow w3.heap.size 5 1 v12 i (vals .u8 ((htx D k).take i)) ∧ Below w3.heap.size w3 wr
theorem hd_twice (M n i : Nat) : hd (2 * (M * 2 ^ i)) (n + i + 1) = hd (M * 2 ^ (i + 1)) (n + (i + 1)) := by
  rw [Nat.pow_succ]
  congr 1
  rw [Nat.mul_comm 2, Nat.mul_assoc]
theorem lt_twice (M n i : Nat) (h : M < 10 ^ n) : M * 2 ^ i < 10 ^ (n + i) := by
  rw [Nat.pow_add]
  exact Nat.mul_lt_mul_of_lt_of_le h (Nat.pow_le_pow_left (by decide) i) (Nat.pow_pos (by decide))
theorem x_join {D M a b z l k P : Nat} (h : D * 2 ^ b = M * 2 ^ a * 10 ^ k) (hz : b + z = l + a) (hP : M * 2 ^ z = P) : D * 2 ^ l = P * 10 ^ k := by
  apply Nat.eq_of_mul_eq_mul_right (Nat.two_pow_pos a)
  rw [Nat.mul_assoc, ← Nat.pow_add, ← hz, Nat.pow_add, ← Nat.mul_assoc, h, ← hP]
  rw [Nat.mul_right_comm _ _ (2 ^ z), Nat.mul_right_comm M, Nat.mul_right_comm _ (10 ^ k)]
theorem dec_start (D n : Nat) (M : Nat) (h : D = M) : Dec D n n M 0 := ⟨0, by omega, by rw [h]⟩
theorem lead16 (M j : Nat) (hM : M < 9007199254740993) (h : M / 10 ^ j ≠ 0) : j + 1 ≤ 16 := by
  rcases Nat.lt_or_ge 16 (j + 1) with g | g
  · exfalso
    apply h
    apply Nat.div_eq_of_lt
    have h1 : (10 : Nat) ^ 16 ≤ 10 ^ j := Nat.pow_le_pow_right (by decide) (by omega)
    have h2 : (10 : Nat) ^ 16 = 10000000000000000 := by decide
    omega
  · exact g

set_option maxRecDepth 100000 in
set_option maxHeartbeats 4000000 in
theorem rexact_ref {b : Int} {f l T S I : Nat} (h : Wid b f l T S I) (x : Nat) (hx : x < 2 * S) (w : World) : Calls Tryd.prog 14 #[.int .i64 b, .int .u64 x] w (XCall f l I S x w) := by
  have HP := Lib.hid (fun wx => parts_ref h x hx wx)
  obtain ⟨h1, h2, h3, h4, h5, h6, h7, h8, -, -, -, hI0⟩ := h.facts
  have HI0 := Lib.hid hI0
  unfold XCall
  generalize hsz : x % S = sz at *
  generalize decide (S ≤ x) = neg at *
  have HW : Hid (∀ u z, sz < I → (2 * u + 1) * 2 ^ z = pv f sz → z < 2100 ∧ 2 * u + 1 < 9007199254740993) := Lib.hid (fun u z hs e => by
    obtain ⟨W, rfl⟩ : ∃ W, T = W + 1 := ⟨T - 1, by omega⟩
    have e1 := (z_bound u z f W sz e (by rw [h6]; exact hs)).1
    have e2 := u_small f u z sz e
    rw [Nat.pow_succ] at e2
    omega)
  obtain ⟨i0, hi, hz0, hz1, hz2⟩ := info_parts info_int
  obtain ⟨i1, hi', hy0, hy1, hy2⟩ := info_parts info_u8
  clear h hsz hx h1 h3 h4 h5 h6 h7 h8 hI0
  go_enter Tryd.func14, Tryd.ntmps14
  go_wp2_with fail
  have HB0 : Hid (Below w.heap.size w (w.alloc (.cells #[.bool false, .string ⟨#[]⟩, .int .i64 0] 23))) := Lib.hid ((Below.refl w.heap.size w).alloc (Nat.le_refl _) _)
  have HK0 := Lib.hid (Blk.new w 23 #[.bool false, .string ⟨#[]⟩, .int .i64 0])
  refine (HP.out _).mono ?_
  rintro e w1 ⟨hb1, hcases⟩
  have HB1 := Lib.hid (HB0.out.trans (hb1.mono HB0.out.size))
  have HK1 := Lib.hid (HK0.out.below hb1 (by simp))
  clear hb1 HP HB0 HK0
  rcases hcases with ⟨hin, rfl⟩ | ⟨hz, rfl⟩ | ⟨hin, hz, u, z, rfl, huz⟩
  · skip
    have n0 := HK1.out.cell 0
    have n1 := HK1.out.cell 1
    have n2 := HK1.out.cell 2
    have f0 := HK1.out.frozen 0
    have f1 := HK1.out.frozen 1
    have f2 := HK1.out.frozen 2
    simp at n0 n1 n2
    go_wp2_with fail
    exact bodyPost_ret (v := .tuple #[.agg #[.bool false, .string ⟨#[]⟩, .int .i64 0], .bool false]) (by simp [results, Tryd.results14, go_sem, n0, n1, n2]) rfl ⟨_, _, _, _, rfl, ((HB1.out.setCell (p := ⟨w.heap.size, 0, none⟩) (Nat.le_refl _) _).setCell (p := ⟨w.heap.size, 1, none⟩) (Nat.le_refl _) _).setCell (p := ⟨w.heap.size, 2, none⟩) (Nat.le_refl _) _, .inl ⟨hin, rfl, rfl, rfl, rfl⟩⟩
  · subst hz
    have n0 := HK1.out.cell 0
    have n1 := HK1.out.cell 1
    have n2 := HK1.out.cell 2
    have f0 := HK1.out.frozen 0
    have f1 := HK1.out.frozen 1
    have f2 := HK1.out.frozen 2
    simp at n0 n1 n2
    go_wp2_with fail
    exact bodyPost_ret (v := .tuple #[.agg #[.bool neg, .string ⟨#[]⟩, .int .i64 0], .bool true]) (by simp [results, Tryd.results14, go_sem, n0, n1, n2]) rfl ⟨_, _, _, _, rfl, ((HB1.out.setCell (p := ⟨w.heap.size, 0, none⟩) (Nat.le_refl _) _).setCell (p := ⟨w.heap.size, 1, none⟩) (Nat.le_refl _) _).setCell (p := ⟨w.heap.size, 2, none⟩) (Nat.le_refl _) _, .inr (.inl ⟨rfl, HI0.out, rfl, rfl, rfl, rfl⟩)⟩
  · obtain ⟨hz21, hu53⟩ := HW.out u z hin huz
    have HUZ := Lib.hid huz
    have HSZ := Lib.hid (show sz < I ∧ sz ≠ 0 from ⟨hin, hz⟩)
    have hne : (((2 * u + 1 : Nat) : Int) == 0) = false := by rw [beq_eq_false_iff_ne]; omega
    obtain ⟨M, hM⟩ : ∃ M, 2 * u + 1 = M := ⟨_, rfl⟩
    have HM := Lib.hid hM
    rw [hM] at hu53 hne ⊢
    have hM0 : M ≠ 0 := by omega
    obtain ⟨E0, hE0⟩ : ∃ E0 : Int, (z : Int) - (l : Int) = E0 := ⟨_, rfl⟩
    have HE := Lib.hid hE0
    rw [hE0]
    have e1 : -1100 ≤ E0 := by omega
    have e2 : E0 ≤ 2100 := by omega
    have HM0 := Lib.hid hM0
    clear hin hz huz hM hE0 h2 HW hz21 hM0
    go_wp2_with fail
    go_loopw [7, 10] (fun v7 v10 wr => X1Rel w1 M v7 v10 wr) (fun v7 _ _ => (RowKit.intOf v7).toNat)
    case atStart => exact ⟨0, none, 0, by omega, by simp, rfl, by rw [hd_zero]; exact Rd.nil, Below.refl _ _⟩
    case round =>
      obtain ⟨j, A, c, hj16, rfl, rfl, hrd, hbel⟩ := hrel
      have HRD := Lib.hid hrd
      have HB := Lib.hid hbel
      clear hrd hbel
      have hql : M / 10 ^ j < 9007199254740993 := Nat.lt_of_le_of_lt (Nat.div_le_self _ _) hu53
      by_cases hq : M / 10 ^ j = 0
      · have HLT : Hid (M < 10 ^ j) := Lib.hid (by
          rcases Nat.lt_or_ge M (10 ^ j) with g | g
          · exact g
          · have := Nat.div_pos g (ten_pos j); omega)
        rw [hq, show ((0 : Nat) : Int) = 0 from rfl]
        obtain ⟨a, ha⟩ : ∃ a, E0.toNat = a := ⟨_, rfl⟩
        obtain ⟨d, hd'⟩ : ∃ d, (-E0).toNat = d := ⟨_, rfl⟩
        have ha2 : a ≤ 2100 := by omega
        have hd2 : d ≤ 1100 := by omega
        have hE1 : E0 - a = -(d : Int) := by omega
        have HAD := Lib.hid (show (d : Int) + E0 = a by omega)
        have hpos : ∀ i : Nat, i < a → 0 < E0 - i := fun i hi => by omega
        have HPOS := Lib.hid hpos
        clear hq hql hpos hd' ha
        go_wp2_with fail
        go_loopw [8, 10, 11] (fun v8 v10 v11 wr => X2Rel w1 M j a E0 v8 v10 v11 wr) (fun v8 _ _ _ => (RowKit.intOf v8).toNat)
        case atStart => exact ⟨0, A, c, by omega, by congr 1; omega, rfl, rfl, by rw [Nat.pow_zero, Nat.mul_one]; exact HRD.out, HB.out⟩
        case round =>
          obtain ⟨i, A2, c2, hia, rfl, rfl, rfl, hrd, hbel⟩ := hrel
          have HRD2 := Lib.hid hrd
          have HB2 := Lib.hid hbel
          clear hrd hbel
          by_cases hlt : i < a
          · have hp := HPOS.out i hlt
            have hb2 : E0 - i ≤ 2100 := by omega
            have HTW := Lib.hid (twice_ref A2 c2 (M * 2 ^ i) (j + i) wr HRD2.out (lt_twice M j i HLT.out) (by omega))
            rw [hd_twice] at HTW
            clear HRD HB
            go_wp2_with fail
            refine HTW.out.mono ?_
            rintro e w4 ⟨A3, c3, rfl, k1, k2, k3, k4⟩
            rw [hd_len]
            have K1 := Lib.hid k1
            have HB3 := Lib.hid (HB2.out.trans (k4.mono HB2.out.size))
            clear k1 k2 k4
            go_wp2_with fail
            go_roundw
            case rel => exact ⟨i + 1, A3, c3, hlt, by congr 1; omega, by first | rfl | (congr 1; omega) | (congr 1), rfl, K1.out, HB3.out⟩
            case measure => simp [RowKit.intOf]; omega
          · obtain rfl : i = a := by omega
            rw [hE1]
            have hE2 : ¬ (0 : Int) < -(d : Int) := by omega
            have HD0 := Lib.hid (lt_twice M j i HLT.out)
            clear HPOS hE1 hlt hia HRD HB
            go_wp2_with fail
            go_loopw [8, 10] (fun v8 v10 wr => X3Rel w1 (M * 2 ^ i) (j + i) d v8 v10 wr) (fun v8 _ _ => (-(RowKit.intOf v8)).toNat)
            case atStart => exact ⟨0, M * 2 ^ i, j + i, A2, c2, Nat.zero_le _, by congr 1; omega, rfl, HRD2.out, ⟨HD0.out, Nat.pos_iff_ne_zero.1 (Nat.mul_pos (Nat.pos_iff_ne_zero.2 HM0.out) (Nat.two_pow_pos i)), Nat.le_refl _, dec_start _ _ _ rfl⟩, HB2.out⟩
            case round =>
              obtain ⟨t, D, k, A3, c3, htd, rfl, rfl, hrd, hfacts, hbel⟩ := hrel
              have HRD3 := Lib.hid hrd
              have HB3 := Lib.hid hbel
              have HF := Lib.hid hfacts
              have hk : k ≤ j + i + t := hfacts.2.2.1
              clear hrd hbel hfacts
              by_cases hlt : t < d
              · have hp : (t : Int) - d < 0 := by omega
                have HTW := Lib.hid (halved_ref A3 c3 D k wr HRD3.out HF.out.1 (by omega))
                have hvn := hvN_le D k
                have HN : Hid (hvD D < 10 ^ hvN D k ∧ hvD D ≠ 0 ∧ hvN D k ≤ j + i + (t + 1) ∧ Dec (hvD D) (hvN D k) ((j + i : Nat) : Int) (M * 2 ^ i) (t + 1)) := Lib.hid ⟨hv_lt D k HF.out.1, hv_pos D HF.out.2.1, by omega, dec_half D k _ t _ HF.out.2.2.2⟩
                clear HRD2 HB2 hvn
                go_wp2_with fail
                refine HTW.out.mono ?_
                rintro e w4 ⟨A4, c4, rfl, k1, k2, k3, k4⟩
                rw [hd_len]
                have K1 := Lib.hid k1
                have HB4 := Lib.hid (HB3.out.trans (k4.mono HB3.out.size))
                clear k1 k2 k4 HTW
                generalize hvD D = D2 at *
                generalize hvN D k = k2 at *
                go_wp2_with fail
                go_roundw
                case rel => exact ⟨t + 1, D2, k2, A4, c4, hlt, by congr 1; omega, rfl, K1.out, HN.out, HB4.out⟩
                case measure => simp [RowKit.intOf]; omega
              · obtain rfl : t = d := by omega
                have hE3 : (t : Int) - t = 0 := by omega
                rw [hE3]
                have HK3 := Lib.hid (HK1.out.below HB3.out HK1.out.lt)
                have HBW := Lib.hid (HB1.out.trans (HB3.out.mono HB1.out.size))
                have hk0 : k ≠ 0 := by
                  intro e
                  have e2 := HF.out.1
                  rw [e] at e2
                  have := HF.out.2.1
                  omega
                clear HRD2 HB2 hlt hE3 hE2 htd HB1 HK1 HB3
                obtain ⟨w3, hw3⟩ : ∃ w3, wr = w3 := ⟨_, rfl⟩
                rw [hw3] at HRD3 HK3 HBW ⊢
                clear hw3
                go_wp2_with fail
                go_loopw [12, 13] (fun v12 v13 wq => X4Rel w3 D k v12 v13 wq) (fun _ v13 _ => k - (RowKit.intOf v13).toNat)
                case atStart => exact ⟨0, Nat.zero_le _, rfl, ⟨rfl, .inl ⟨rfl, rfl⟩⟩, Below.refl _ _⟩
                case round =>
                  obtain ⟨s, hsk, rfl, hown, hbel⟩ := hrel
                  have HO := Lib.hid hown
                  have HBQ := Lib.hid hbel
                  clear hown hbel
                  by_cases hlt : s < k
                  · obtain ⟨ba, off, rfl, hcell⟩ := (HRD3.out.below HBQ.out).val (show s < (hd D k).length by rw [hd_len]; omega)
                    have hd9 := hd_get_lt D k s hlt
                    have HTK := Lib.hid (htx_take D k s hlt)
                    generalize (hd D k).getD s 0 = y at *
                    have hltI : (s : Int) < (k : Int) := by omega
                    have hyn0 : (0 : Int) ≤ (y : Int) := by omega
                    have hy9 : (y : Int) ≤ 9 := by omega
                    have hHO := HO.out.alloc (.cells #[.int .u8 (48 + (y : Int))] 5)
                    have HHO := Lib.hid hHO
                    clear hHO
                    obtain ⟨A6, c6, rfl, h6c, h6m, -, -⟩ := own_rd HO.out
                    go_wp2_with (at_builtin; refine wpList_append_any _ rfl _ _ _ rfl w3.heap.size 5 i1 (.int .u8 0) 1 1 Tryd.underlying42 hi' hy0 hy1 hy2 rfl (by omega) (.slice A6 s c6) s (vals .u8 ((htx D k).take s)) rfl HHO.out (wr.heap.size + 1) (some ⟨wr.heap.size, 0, none⟩) 1 1 [.int .u8 (48 + (y : Int))] rfl ?c1 ?c2 ?c3 ?c4 ?c5 ?_)
                    case c1 => exact ⟨rfl, fun _ => ⟨_, rfl, by simp, cell_one_new _ _ _⟩⟩
                    case c2 => exact one_oneCell rfl
                    case c3 => unfold maxLen; omega
                    case c4 => omega
                    case c5 => have := HBQ.out.size; simp; omega
                    intro v2 w5 hown2 hg2 hor
                    have HB6 := Lib.hid ((HBQ.out.alloc HBQ.out.size _).grown hg2 (by have := HBQ.out.size; simp; omega) (fun q hq => (HO.out.lt q hq).1))
                    have HO6 : Hid (w5.ownsRow w3.heap.size 5 1 v2 (s + 1) (vals .u8 ((htx D k).take (s + 1)))) := Lib.hid (by
                      rw [HTK.out, vals_append, vals_one, show ((48 + y : Nat) : Int) = 48 + (y : Int) by omega]
                      exact hown2)
                    clear hown2 hg2 hor
                    go_wp2_with fail
                    go_roundw
                    case rel => exact ⟨s + 1, by omega, by go_num, HO6.out, HB6.out⟩
                    case measure => simp [RowKit.intOf]; omega
                  · obtain rfl : s = k := by omega
                    have hlen := htx_len D s
                    rw [List.take_of_length_le (by omega)] at HO
                    obtain ⟨A6, c6, rfl, h6c, h6m, -, -⟩ := own_rd HO.out
                    have hcv : (convert 42 9 (.slice A6 s c6)).run Tryd.prog wr = .ok (.string (strOf (htx D s))) wr :=
                      row_string (fun x hx => by have := htx_mem D s x hx; omega) hlen HO.out (by omega)
                    have HPL := Lib.hid (fun wx => plain_ref (strOf (htx D s)) wx (by have e : (strOf (htx D s)).size = s := by { rw [← bytes_len]; unfold strOf; simp [hlen] }; omega))
                    have HKQ := Lib.hid (HK3.out.below HBQ.out HK3.out.lt)
                    have HBZ := Lib.hid (HBW.out.trans (HBQ.out.mono HBW.out.size))
                    have hld := lead_le (strOf (htx D s)).data.toList
                    have hsz : (strOf (htx D s)).data.toList.length = s := by unfold strOf; simp [hlen]
                    rw [hsz] at hld
                    have HXS : Hid (∃ q : Nat, D * 2 ^ l = pv f sz * 10 ^ q ∧ plainS (strOf (htx D s)) = plainS (digitsS D) ∧ ((j + i : Nat) : Int) - (leadL (strOf (htx D s)).data.toList : Nat) = ((digitsS D).size : Int) - q) := Lib.hid (by
                      obtain ⟨q, hq, hv⟩ := HF.out.2.2.2
                      have hes := exact_same D s ((j + i : Nat) : Int) (M * 2 ^ i) t D q HF.out.2.1 HF.out.1 HF.out.2.2.2 HF.out.2.1 hv
                      refine ⟨q, x_join hv (z := z) (by have := HAD.out; have := HE.out; omega) (by rw [← HM.out]; exact HUZ.out), hes.1, hes.2⟩)
                    have n0 := HKQ.out.cell 0
                    have n1 := HKQ.out.cell 1
                    have n2 := HKQ.out.cell 2
                    have f0 := HKQ.out.frozen 0
                    have f1 := HKQ.out.frozen 1
                    have f2 := HKQ.out.frozen 2
                    simp at n0 n1 n2
                    generalize leadL (strOf (htx D s)).data.toList = ld at *
                    generalize plainS (strOf (htx D s)) = ps at *
                    generalize strOf (htx D s) = tx at *
                    clear HK3 HBQ HBW HO hlen hsz h6c h6m
                    go_wp2_with fail
                    refine (HPL.out _).mono ?_
                    rintro e w6 ⟨rfl, rfl⟩
                    go_wp2_with fail
                    exact bodyPost_ret (v := .tuple #[.agg #[.bool neg, .string ps, .int .i64 (((j + i : Nat) : Int) - (ld : Int))], .bool true]) (by simp [results, Tryd.results14, go_sem, n0, n1, n2]) rfl ⟨true, neg, ps, ((j + i : Nat) : Int) - (ld : Int), rfl, ((HBZ.out.setCell (p := ⟨w.heap.size, 0, none⟩) (Nat.le_refl _) _).setCell (p := ⟨w.heap.size, 1, none⟩) (Nat.le_refl _) _).setCell (p := ⟨w.heap.size, 2, none⟩) (Nat.le_refl _) _, .inr (.inr ⟨HSZ.out.1, HSZ.out.2, rfl, rfl, D, HXS.out.choose, HF.out.2.1, HXS.out.choose_spec.1, HXS.out.choose_spec.2.1, HXS.out.choose_spec.2.2⟩)⟩
      · have hj17 := lead16 M j hu53 hq
        have HDV : Hid (M / 10 ^ j / 10 = M / 10 ^ (j + 1)) := Lib.hid (by rw [Nat.pow_succ, Nat.div_div_eq_div_mul])
        have HCN := Lib.hid (hd_cons M j)
        generalize M / 10 ^ j = q at *
        generalize hqE : M / 10 ^ (j + 1) = q' at *
        have HQE := Lib.hid hqE
        clear hqE
        have hq0 : (0 : Int) < (q : Int) := by omega
        have hql' : (q : Int) < 9007199254740993 := by omega
        obtain ⟨y, hy⟩ : ∃ y, q % 10 = y := ⟨_, rfl⟩
        rw [hy] at HCN
        have i1 : (q : Int) % 10 = (y : Int) := by omega
        have i2 : (q : Int) / 10 = (q' : Int) := by have := HDV.out; omega
        have i3 : (q : Int).tmod 10 = (y : Int) := by rw [Int.tmod_eq_emod_of_nonneg (by omega)]; exact i1
        have i4 : (q : Int).tdiv 10 = (q' : Int) := by rw [Int.tdiv_eq_ediv_of_nonneg (by omega)]; exact i2
        have hy0' : (0 : Int) ≤ (y : Int) := by omega
        have hy9 : (y : Int) ≤ 9 := by omega
        have hlt' : q' < q := by have := HDV.out; omega
        have hqw : IntKind.u64.wrap (q' : Int) = (q' : Int) := by rw [u64_wrap]; omega
        have hqw2 : IntKind.u64.wrap (q : Int) = (q : Int) := by rw [u64_wrap]; omega
        clear hy hq hql hql' hu53
        have HLIT := Lib.hid (World.ownsRow_lit (base := w1.heap.size) (e := 3) (size := 1) wr #[.int .i64 (y : Int)] 1 HB.out.size (by unfold maxLen; omega) rfl)
        have HRDL := Lib.hid ((HRD.out.alloc (.cells #[.int .i64 (y : Int)] 3)).reads)
        go_wp2_with (at_builtin; refine wpList_append_any _ rfl _ _ _ rfl w1.heap.size 3 i0 (.int .i64 0) 1 8 Tryd.underlying69 hi hz0 hz1 hz2 rfl (by omega) (.slice (some ⟨wr.heap.size, 0, none⟩) 1 1) 1 [.int .i64 (y : Int)] rfl HLIT.out (wr.heap.size + 1) A j c (vals .i64 (hd M j)) rfl ?c1 ?c2 ?c3 ?c4 ?c5 ?_)
        case c1 =>
          have h := HRDL.out
          rw [vals_length, hd_len] at h
          simpa using h
        case c2 => exact vals_oneCell _ _
        case c3 => unfold maxLen; omega
        case c4 => omega
        case c5 => have := HB.out.size; simp; omega
        intro v2 w2 hown2 hg2 hor
        have HB2 := Lib.hid ((HB.out.alloc HB.out.size _).grown hg2 (by have := HB.out.size; simp; omega) (fun q hq => (HLIT.out.lt q hq).1))
        obtain ⟨A', c', rfl, hnc, hcm', hcl, hrd⟩ := own_rd hown2
        have HRD' : Hid (Rd w2 A' (vals .i64 (hd M (j + 1)))) := Lib.hid (by
          rw [HCN.out]
          exact hrd)
        clear hown2 hg2 hor hrd
        go_wp2_with fail
        go_roundw
        case rel => exact ⟨j + 1, A', c', hj17, by rw [HQE.out], by congr 1; omega, HRD'.out, HB2.out⟩
        case measure => simp [RowKit.intOf]; omega
end Go.Proofs.YtgckfilmhnapeaaDoor
