/- The program's quot: long division. -/
import Derived.Test.YtgckfilmhnapeaaDoorQBack
import Derived.Test.YtgckfilmhnapeaaDoorQp3
import Derived.WalkMore
import Derived.Deep.DeepCutAuto
namespace Go.Proofs.YtgckfilmhnapeaaDoor
open Go.RowKit
set_option linter.unusedVariables false

theorem lead32_any (x : Nat) (hx : x < 4294967296) (w : World) :
    Calls Tryd.prog 123 #[.int .u32 x] w fun e w' => e = .returned (.int .i64 ((32 - blen x : Nat) : Int)) ∧ w = w' := by
  refine (Tryd.bits_LeadingZeros32 (x : Int) w (by omega) (by omega)).mono ?_
  rintro e w' ⟨rfl, rfl⟩
  refine ⟨?_, rfl⟩
  have h1 : Lib.bitLen ((x : Int).toNat) = blen x := bitLenAux_is 64 x (Nat.lt_of_lt_of_le hx (by decide))
  have h2 : blen x ≤ 32 := (blen_iff x 32).2 hx
  first
    | (rw [h1]; congr 2; omega)
    | (congr 2; rw [h1]; omega)
/-- quotient and rest are handed back -/
def DivPost (w : World) (Q R : Nat) (e : Ending) (w' : World) : Prop :=
  ∃ A c B d, e = .returned (.tuple #[.slice A (ll Q) c, .slice B (ll R) d, .bool true]) ∧ CanC w' A c Q ∧ CanC w' B d R ∧ Below w.heap.size w w'
theorem ownL_form {w : World} {base : Nat} {v : Value} {X T : Nat} (h : OwnL w base v X T) (hT : 0 < T) : ∃ g c, v = .slice (some ⟨g, 0, none⟩) T c ∧ T ≤ c ∧ c ≤ maxLen ∧ base ≤ g ∧ g < w.heap.size := by
  have hl := h.lt
  rcases h.2 with ⟨rfl, h0⟩ | ⟨g, cap, cur, rfl, hb, hh, hn, hc, _, _⟩
  · omega
  · exact ⟨g, cap, rfl, hn, hc, hb, (hl g rfl).2⟩
theorem ownL_limbs {w : World} {base g c X T n : Nat} (h : OwnL w base (.slice (some ⟨g, 0, none⟩) T c) X T) (hn : n ≤ T) : LimbsAt w g 0 n X := by
  intro i hi
  have := h.cellAt i (by omega)
  rw [vals_get _ _ _ (by rw [digs_len]; omega), digs_get _ _ _ (by omega)] at this
  rw [Nat.zero_add]; exact this
theorem LimbsAt.below {w w' : World} {g o n Y : Nat} (h : LimbsAt w g o n Y) (hg : g < w.heap.size) (hb : Below w.heap.size w w') : LimbsAt w' g o n Y :=
  fun i hi => (hb.cell (p := ⟨g, o + i, none⟩) hg).trans (h i hi)
theorem topdig_lt (Y k : Nat) (h : Y < 4294967296 ^ (k + 1)) : Y / 4294967296 ^ k < 4294967296 := by
  rw [Nat.div_lt_iff_lt_mul (pow_posL k), Nat.mul_comm, ← Nat.pow_succ]; exact h
/-- how far both are moved -/
theorem up_facts (Y k : Nat) (hn : ll Y = k + 2) : ∃ up, up < 32 ∧ 32 - blen (Y / 4294967296 ^ (k + 1) % 4294967296) = up ∧ 2147483648 ≤ Y * 2 ^ up / 4294967296 ^ (k + 1) ∧ Y * 2 ^ up < 4294967296 ^ (k + 2) ∧ Y * 2 ^ up / 4294967296 ^ (k + 1) < 4294967296 := by
  have hY : Y ≠ 0 := by rintro rfl; rw [ll_zero'] at hn; omega
  have h := dig_topL Y hY
  have hn' : (dig 4294967296 Y).length = k + 2 := hn
  rw [hn', dig_getDL, show k + 2 - 1 = k + 1 by omega] at h
  have hb := blen_topL Y hY
  rw [hn, show k + 2 - 1 = k + 1 by omega] at hb
  have h3 := (blen_iff Y _).1 (Nat.le_refl (blen Y))
  have h4 := blen_ge Y hY
  have h5 := blen_pos Y hY
  have ht := h.2
  have hlt := lt_powL Y
  rw [hn] at hlt
  have htl := topdig_lt Y (k + 1) hlt
  have hb32 := (blen_iff _ 32).2 htl
  have hb1 := blen_pos _ ht
  have key : Y * 2 ^ (32 - blen (Y / 4294967296 ^ (k + 1))) < 4294967296 ^ (k + 2) := by
    have := Nat.mul_lt_mul_of_pos_right h3 (Nat.two_pow_pos (32 - blen (Y / 4294967296 ^ (k + 1))))
    rw [← Nat.pow_add, show blen Y + (32 - blen (Y / 4294967296 ^ (k + 1))) = 32 * (k + 2) by omega, ← powL] at this
    exact this
  refine ⟨32 - blen (Y / 4294967296 ^ (k + 1)), by omega, by rw [Nat.mod_eq_of_lt htl], ?_, key, topdig_lt _ (k + 1) key⟩
  rw [Nat.le_div_iff_mul_le (pow_posL _)]
  have := Nat.mul_le_mul_right (2 ^ (32 - blen (Y / 4294967296 ^ (k + 1)))) h4
  rw [← Nat.pow_add, show blen Y - 1 + (32 - blen (Y / 4294967296 ^ (k + 1))) = 31 + 32 * (k + 1) by omega, Nat.pow_add, ← powL] at this
  exact this
def LongRel (w : World) (g N C gq T gy n Y X : Nat) (v13 : Value) (wr : World) : Prop :=
  ∃ jj Xc Q : Nat, v13 = .int .i64 ((jj : Int) - 1) ∧ jj ≤ T ∧ OwnL wr w.heap.size (.slice (some ⟨g, 0, none⟩) (N + 1) C) Xc (N + 1) ∧ OwnL wr w.heap.size (.slice (some ⟨gq, 0, none⟩) T T) Q T ∧ LimbsAt wr gy 0 n Y ∧
    Xc < Y * 4294967296 ^ jj ∧ Xc + Q * Y = X ∧ Q % 4294967296 ^ jj = 0 ∧ Below w.heap.size w wr
theorem long_start (X Y N k T up : Nat) (hN : ll X = N) (hT : N + 1 = k + 2 + T) (hup : up < 32) (hh : 2147483648 ≤ Y * 2 ^ up / 4294967296 ^ (k + 1)) : X * 2 ^ up < Y * 2 ^ up * 4294967296 ^ T := by
  have h1 := lt_powL X
  rw [hN] at h1
  have h2 : 2 ^ up ≤ 2 ^ 31 := Nat.pow_le_pow_right (by decide) (by omega)
  have h3 : 2147483648 * 4294967296 ^ (k + 1) ≤ Y * 2 ^ up := (Nat.le_div_iff_mul_le (pow_posL _)).1 hh
  have h4 : 2147483648 * 4294967296 ^ (k + 1) * 4294967296 ^ T ≤ Y * 2 ^ up * 4294967296 ^ T := Nat.mul_le_mul_right _ h3
  have h5 : X * 2 ^ up < 4294967296 ^ N * 2 ^ up := Nat.mul_lt_mul_of_pos_right h1 (Nat.two_pow_pos up)
  have h6 : 4294967296 ^ N * 2 ^ up ≤ 4294967296 ^ N * 2147483648 := Nat.mul_le_mul_left _ h2
  rw [Nat.mul_assoc, ← Nat.pow_add, show k + 1 + T = N by omega, Nat.mul_comm] at h4
  omega
/-- the highest limbs of what is left -/
theorem long_top (Xc Y j k : Nat) (hlt : Xc < Y * 4294967296 ^ (j + 1)) (hY : Y < 4294967296 ^ (k + 2)) :
    Xc / 4294967296 ^ j < Y * 4294967296 ∧ Xc / 4294967296 ^ (j + (k + 2)) % 4294967296 * 4294967296 + Xc / 4294967296 ^ (j + (k + 1)) % 4294967296 = Xc / 4294967296 ^ j / 4294967296 ^ (k + 1) ∧
    Xc / 4294967296 ^ (j + k) % 4294967296 = Xc / 4294967296 ^ j / 4294967296 ^ k % 4294967296 := by
  have h1 : Xc / 4294967296 ^ j < Y * 4294967296 := by
    rw [Nat.div_lt_iff_lt_mul (pow_posL j), Nat.mul_assoc, Nat.mul_comm 4294967296, ← Nat.pow_succ]; exact hlt
  refine ⟨h1, ?_, ?_⟩
  · rw [Nat.pow_add, Nat.pow_add _ j (k + 1), ← Nat.div_div_eq_div_mul, ← Nat.div_div_eq_div_mul]
    generalize Xc / 4294967296 ^ j = R at *
    have h2 : R < 4294967296 ^ (k + 1 + 2) := by
      have : Y * 4294967296 < 4294967296 ^ (k + 2) * 4294967296 := Nat.mul_lt_mul_of_pos_right hY (by decide)
      rw [← Nat.pow_succ] at this
      exact Nat.lt_trans h1 this
    have h3 : R / 4294967296 ^ (k + 2) < 4294967296 := topdig_lt R (k + 2) h2
    rw [Nat.mod_eq_of_lt h3]
    exact (two_limbs R (k + 1)).symm
  · rw [Nat.pow_add, ← Nat.div_div_eq_div_mul]
theorem ownL_cell {w : World} {base g c X T i : Nat} (h : OwnL w base (.slice (some ⟨g, 0, none⟩) T c) X T) (hi : i < T) : w.cell? ⟨g, i, none⟩ = some (.int .u32 ((X / 4294967296 ^ i % 4294967296 : Nat) : Int)) := by
  have := ownL_limbs h (Nat.le_refl T) i hi
  rwa [Nat.zero_add] at this
def GuessRel (R Y k : Nat) (v15 v16 : Value) : Prop := ∃ gu re : Nat, v15 = .int .u64 gu ∧ v16 = .int .u64 re ∧ GuessInv R Y k gu re
def GuessOut (R Y : Nat) (wd : World) (v15 : Value) (wx : World) : Prop := ∃ gu : Nat, v15 = .int .u64 gu ∧ GuessEnd R Y gu ∧ wx = wd
theorem mod_down (Q j : Nat) (h : Q % 4294967296 ^ (j + 1) = 0) : Q % 4294967296 ^ j = 0 := by
  have h1 := Nat.div_add_mod Q (4294967296 ^ (j + 1))
  rw [h, Nat.add_zero, Nat.pow_succ, Nat.mul_assoc] at h1
  rw [← h1]
  exact Nat.mul_mod_right _ _
theorem long_none (Xc Y j : Nat) (hY : 0 < Y) (h : Xc / 4294967296 ^ j / Y = 0) : Xc < Y * 4294967296 ^ j := by
  have h1 : Xc / 4294967296 ^ j < Y := by
    rcases Nat.lt_or_ge (Xc / 4294967296 ^ j) Y with g | g
    · exact g
    · have := Nat.div_pos g hY; omega
  exact (Nat.div_lt_iff_lt_mul (pow_posL j)).1 h1
theorem long_next (Xc Y Q j X : Nat) (hY : 0 < Y) (hs : Xc + Q * Y = X) (hm : Q % 4294967296 ^ (j + 1) = 0) :
    Xc % (Y * 4294967296 ^ j) < Y * 4294967296 ^ j ∧ Xc % (Y * 4294967296 ^ j) + (Q + Xc / (Y * 4294967296 ^ j) * 4294967296 ^ j) * Y = X ∧ (Q + Xc / (Y * 4294967296 ^ j) * 4294967296 ^ j) % 4294967296 ^ j = 0 := by
  refine ⟨Nat.mod_lt _ (Nat.mul_pos hY (pow_posL j)), ?_, ?_⟩
  · have h := Nat.div_add_mod Xc (Y * 4294967296 ^ j)
    generalize Xc % (Y * 4294967296 ^ j) = r at *
    generalize Xc / (Y * 4294967296 ^ j) = q at *
    rw [Nat.add_mul, ← hs, ← h, Nat.mul_assoc q, Nat.mul_comm (4294967296 ^ j) Y, Nat.mul_comm q]
    omega
  · rw [Nat.add_mul_mod_self_right]
    exact mod_down Q j hm
theorem long_div (Xc Y j : Nat) : Xc / 4294967296 ^ j / Y = Xc / (Y * 4294967296 ^ j) := by rw [Nat.div_div_eq_div_mul, Nat.mul_comm]
theorem long_room (Xc Y j n : Nat) (hlt : Xc < Y * 4294967296 ^ (j + 1)) (hY : Y < 4294967296 ^ n) : Xc < 4294967296 ^ (j + n + 1) ∧ Y * 4294967296 ^ j ≤ 4294967296 ^ (j + n + 1) := by
  have h1 : Y * 4294967296 ^ (j + 1) ≤ 4294967296 ^ n * 4294967296 ^ (j + 1) := Nat.mul_le_mul_right _ (Nat.le_of_lt hY)
  rw [← Nat.pow_add, show n + (j + 1) = j + n + 1 by omega] at h1
  have h2 : Y * 4294967296 ^ j ≤ 4294967296 ^ n * 4294967296 ^ j := Nat.mul_le_mul_right _ (Nat.le_of_lt hY)
  rw [← Nat.pow_add] at h2
  have h3 : 4294967296 ^ (n + j) ≤ 4294967296 ^ (j + n + 1) := Nat.pow_le_pow_right (by decide) (by omega)
  omega
theorem ownL_put {w : World} {base g c Q T j qd : Nat} (h : OwnL w base (.slice (some ⟨g, 0, none⟩) T c) Q T) (hj : j < T) (hq : qd < 4294967296) (hm : Q % 4294967296 ^ (j + 1) = 0) :
    OwnL (w.setCell ⟨g, j, none⟩ (.int .u32 (qd : Int))) base (.slice (some ⟨g, 0, none⟩) T c) (Q + qd * 4294967296 ^ j) T ∧ w.grownBy (w.setCell ⟨g, j, none⟩ (.int .u32 (qd : Int))) (some g) := by
  have := h.stored j (.int .u32 (qd : Int))
  rw [vals_set, digs_put Q T j qd hj hq hm] at this
  exact this
def ShrTo (w : World) (R : Nat) (e : Ending) (w' : World) : Prop :=
  ∃ A c b, e = .returned (.tuple #[.slice A (ll R) c, .bool b, .bool true]) ∧ CanC w' A c R ∧ Below w.heap.size w w'
structure LongSt (w : World) (g N C gq T gy n Y Xc Q k j x3 : Nat) (wr : World) : Prop where
  O : OwnL wr w.heap.size (.slice (some ⟨g, 0, none⟩) (N + 1) C) Xc (N + 1)
  Q : OwnL wr w.heap.size (.slice (some ⟨gq, 0, none⟩) T T) Q T
  L : LimbsAt wr gy 0 n Y
  B : Below w.heap.size w wr
  c : wr.cell? ⟨g, j + k, none⟩ = some (.int .u32 (x3 : Int))
theorem u64_quo (a b : Nat) (h : a < 18446744073709551616) : IntKind.u64.wrap ((a : Int) / (b : Int)) = ((a / b : Nat) : Int) ∧ ((a : Int) % (b : Int)) = ((a % b : Nat) : Int) := by
  refine ⟨?_, rfl⟩
  rw [← Int.natCast_ediv]
  have : a / b ≤ a := Nat.div_le_self a b
  generalize a / b = q at *
  exact IntWalk.u64_in _ (by omega)
set_option maxRecDepth 100000 in
set_option maxHeartbeats 3000000 in
theorem long_any (A B : Option Addr) (X Y c d : Nat) (w : World) (hA : CanC w A c X) (hB : CanC w B d Y) (hn2 : 2 ≤ ll Y) (hXY : ll Y ≤ ll X) (hl : ll X ≤ 300000) :
    Calls Tryd.prog 95 #[.slice A (ll X) c, .slice B (ll Y) d] w (DivPost w (X / Y) (X % Y)) := by
  obtain ⟨i0, hi, hz0, hz1, hz2⟩ := info_parts info_u32
  have CA := Lib.hid hA
  have CB := Lib.hid hB
  obtain ⟨n, hn⟩ : ∃ n, ll Y = n := ⟨_, rfl⟩
  obtain ⟨k, hk⟩ : ∃ k, n = k + 2 := ⟨n - 2, by omega⟩
  obtain ⟨up, hup, hupe, hhi, hYn, hhi2⟩ := up_facts Y k (by omega)
  have HUPE := Lib.hid hupe
  have HHI := Lib.hid hhi
  have HHI2 := Lib.hid hhi2
  have HYN := Lib.hid hYn
  have HN := Lib.hid hn
  obtain ⟨ba, oa, hae, ha0⟩ := hB.can.val (i := k + 1) (by have := hn; unfold ll at this; omega)
  subst hae
  rw [dig_getDL] at ha0
  have HLD := Lib.hid (fun wx => lead32_any (Y / 4294967296 ^ (k + 1) % 4294967296) (Nat.mod_lt _ (by decide)) wx)
  rw [hupe] at HLD
  have hM1 := moved_any A X c up w hA.can hup (by omega)
  have HM1 := Lib.hid hM1
  have HM2 := Lib.hid (fun wx (hb : Below w.heap.size w wx) => moved_any (some ⟨ba, oa, none⟩) Y d up wx (hB.can.below hb) hup (by omega))
  rw [hn] at HM2 hn2 hXY ⊢
  clear hA hB hupe hhi hhi2 hYn hn hM1
  generalize Y / 4294967296 ^ (k + 1) % 4294967296 = tl at *
  obtain ⟨N, hN⟩ : ∃ N, ll X = N := ⟨_, rfl⟩
  have HNX := Lib.hid hN
  rw [hN] at HM1 hl hXY ⊢
  clear hN
  go_enter Tryd.func95, Tryd.ntmps95
  have e1 : (n : Int) - 1 = (k : Int) + 1 := by omega
  have HK := Lib.hid hk
  have hk1 : n ≤ k + 2 := by omega
  have hk2 : k + 2 ≤ n := by omega
  clear hk
  go_wp2_with fail
  go_step3
  go_wp2_with fail
  refine (HLD.out _).mono ?_
  rintro e w1 ⟨rfl, rfl⟩
  go_wp2_with fail
  refine HM1.out.mono ?_
  rintro e w1 ⟨v1, rfl, ho1, hb1⟩
  obtain ⟨g, C, rfl, hC, hCm, hbg, hgl⟩ := ownL_form ho1 (Nat.succ_pos _)
  have HO1 := Lib.hid ho1
  have HB1 := Lib.hid hb1
  clear ho1 hb1
  unfold maxLen at hCm
  go_wp2_with fail
  refine (HM2.out _ HB1.out).mono ?_
  rintro e w2 ⟨v2, rfl, ho2, hb2⟩
  obtain ⟨gy, Cy, rfl, hCy, hCym, hbgy, hgyl⟩ := ownL_form ho2 (Nat.succ_pos _)
  have HO2 : Hid (OwnL w2 w.heap.size (.slice (some ⟨g, 0, none⟩) (N + 1) C) (X * 2 ^ up) (N + 1)) := Lib.hid (World.ownsRow.kept HO1.out (grown_of_below hb2) (Or.inr (by simp [Value.ownBlock])))
  have HBB := Lib.hid (HB1.out.trans (hb2.mono HB1.out.size))
  have HLY := Lib.hid (ownL_limbs ho2 (show n ≤ n + 1 by omega))
  have hgy : gy ≠ g := by omega
  have hg2 : g < w2.heap.size := by have := hb2.size; omega
  clear ho2 hb2 HO1 HM1 HM2 HLD
  unfold maxLen at hCym
  obtain ⟨T, hT⟩ : ∃ T, N + 1 = n + T := ⟨N + 1 - n, by omega⟩
  have e2 : (N : Int) + 1 - (n : Int) = (T : Int) := by omega
  have hT1 : N + 1 ≤ n + T := by omega
  have hT2 : n + T ≤ N + 1 := by omega
  have HT := Lib.hid hT
  clear hT
  go_wp2_with (at_make; refine wpList_make_full _ rfl _ _ 47 rfl w.heap.size 49 i0 (.int .u32 0) 1 Tryd.underlying47 hi hz0 hz1 _ _ _ _ T rfl rfl ?c0 ?c1 ?c2 ?c3 ?c4 ?_)
  (try (case c0 => omega))
  (try (case c1 => omega))
  (try (case c2 => first | (rw [hz2]; omega) | omega))
  (try (case c3 => first | (unfold maxLen; omega) | omega))
  (try (case c4 => have := HBB.out.size; omega))
  intro w3 hown3 hg3
  rw [made_vals] at hown3
  have hx0 : (digs 4294967296 0 T) = List.replicate T 0 := by
    rw [← padD_full, ← padD_zero 0]
    unfold padD
    apply List.ext_getElem
    · simp [digs]
    · intro t h1 h2; simp [digs]
  obtain ⟨gq, hgq⟩ : ∃ gq, w2.heap.size = gq := ⟨_, rfl⟩
  rw [hgq] at hown3 hg2 hgyl ⊢
  have HQ3 : Hid (OwnL w3 w.heap.size (.slice (some ⟨gq, 0, none⟩) T T) 0 T) := Lib.hid (by unfold OwnL; rw [hx0]; exact hown3)
  have HO3 : Hid (OwnL w3 w.heap.size (.slice (some ⟨g, 0, none⟩) (N + 1) C) (X * 2 ^ up) (N + 1)) := Lib.hid (World.ownsRow.kept HO2.out hg3 (Or.inr (by simp [Value.ownBlock])))
  have HLY3 : Hid (LimbsAt w3 gy 0 n (Y * 2 ^ up)) := Lib.hid (fun i hi => hg3.cell (HLY.out i hi) (by simp))
  have HB3 : Hid (Below w.heap.size w w3) := Lib.hid (HBB.out.grown hg3 HBB.out.size (fun _ h => by cases h))
  clear hown3 hg3 hx0 HO2 HLY HBB hgq hbgy hgl
  go_wp2_with fail
  have hy1 := HLY3.out (k + 1) (by omega)
  have hy2 := HLY3.out k (by omega)
  rw [Nat.zero_add] at hy1 hy2
  have hhm : Y * 2 ^ up / 4294967296 ^ (k + 1) % 4294967296 = Y * 2 ^ up / 4294967296 ^ (k + 1) := Nat.mod_eq_of_lt HHI2.out
  rw [hhm] at hy1
  have hhl := HHI2.out
  have hhg := HHI.out
  have hnl : Y * 2 ^ up / 4294967296 ^ k % 4294967296 < 4294967296 := Nat.mod_lt _ (by decide)
  have e3 : (n : Int) - 2 = (k : Int) := by omega
  have b1 : (k : Int) + 1 < (n : Int) := by omega
  have b2 : (k : Int) < (n : Int) := by omega
  have t1 : ((k : Int) + 1).toNat = k + 1 := by omega
  have r1 : IntKind.i64.wrap ((k : Int) + 1) = (k : Int) + 1 := IntWalk.i64_in _ (by omega)
  have r2 : IntKind.i64.wrap (k : Int) = (k : Int) := IntWalk.i64_in _ (by omega)
  obtain ⟨high, hhigh⟩ : ∃ high, Y * 2 ^ up / 4294967296 ^ (k + 1) = high := ⟨_, rfl⟩
  obtain ⟨next, hnext⟩ : ∃ next, Y * 2 ^ up / 4294967296 ^ k % 4294967296 = next := ⟨_, rfl⟩
  rw [hhigh] at hy1 hhl hhg
  rw [hnext] at hy2 hnl
  have HHIGH := Lib.hid hhigh
  have HNEXT := Lib.hid hnext
  have q1 : IntKind.u64.wrap (high : Int) = high := IntWalk.u64_in _ (by omega)
  have q2 : IntKind.u64.wrap (next : Int) = next := IntWalk.u64_in _ (by omega)
  clear hhm hhigh hnext
  go_quiet (fail)
  go_wp2_with fail
  clear hy1 hy2 t1 r1 r2 q1 q2 b1 b2 e1 ha0
  have HST := Lib.hid (long_start X Y N k T up HNX.out (by have := HT.out; omega) hup HHI.out)
  have HO4 : Hid (OwnL (w3.drewN nq) w.heap.size (.slice (some ⟨g, 0, none⟩) (N + 1) C) (X * 2 ^ up) (N + 1)) := Lib.hid HO3.out
  have HQ4 : Hid (OwnL (w3.drewN nq) w.heap.size (.slice (some ⟨gq, 0, none⟩) T T) 0 T) := Lib.hid HQ3.out
  have HL4 : Hid (LimbsAt (w3.drewN nq) gy 0 n (Y * 2 ^ up)) := Lib.hid HLY3.out
  have HB4 : Hid (Below w.heap.size w (w3.drewN nq)) := Lib.hid (below_drewN' HB3.out nq)
  clear HO3 HQ3 HLY3 HB3
  generalize w3.drewN nq = wd at *
  have HXX : Hid (X * 2 ^ up / (Y * 2 ^ up) = X / Y ∧ X * 2 ^ up % (Y * 2 ^ up) = X % Y * 2 ^ up) := Lib.hid ⟨Nat.mul_div_mul_right _ _ (Nat.two_pow_pos up), Nat.mul_mod_mul_right _ _ _⟩
  generalize X * 2 ^ up = X2 at *
  generalize Y * 2 ^ up = Y2 at *
  go_step3
  go_wp2_with fail
  go_loopw [13] (fun v13 wr => LongRel w g N C gq T gy n Y2 X2 v13 wr) (fun v13 _ => (intOf v13 + 1).toNat)
  case atStart => exact ⟨T, X2, 0, rfl, Nat.le_refl _, HO4.out, HQ4.out, HL4.out, HST.out, by omega, Nat.zero_mod _, HB4.out⟩
  case round =>
    obtain ⟨jj, Xc, Q, rfl, hjT, hO, hQ, hLY, hlt, hsum, hmod, hbel⟩ := hrel
    have HO := Lib.hid hO
    have HQ := Lib.hid hQ
    have HLY := Lib.hid hLY
    have HLT := Lib.hid hlt
    have HSUM := Lib.hid hsum
    have HMOD := Lib.hid hmod
    have HB := Lib.hid hbel
    clear hO hQ hLY hlt hsum hmod hbel HO4 HQ4 HL4 HB4
    rcases jj with _ | j
    · have ej : ((0 : Nat) : Int) - 1 = -1 := by omega
      rw [ej]
      have hlt0 := HLT.out
      rw [Nat.pow_zero, Nat.mul_one] at hlt0
      have hY0 : 0 < Y2 := by omega
      have hq : X2 / Y2 = Q ∧ X2 % Y2 = Xc := by
        rw [← HSUM.out]
        exact ⟨by rw [Nat.add_mul_div_right _ _ hY0, Nat.div_eq_of_lt hlt0, Nat.zero_add], by rw [Nat.add_mul_mod_self_right]; exact Nat.mod_eq_of_lt hlt0⟩
      have hQe := hq.1.symm.trans HXX.out.1
      have hXe := hq.2.symm.trans HXX.out.2
      have hXn : Xc < 4294967296 ^ n := Nat.lt_trans hlt0 (by rw [HK.out]; exact HYN.out)
      have hrd : Limbs wr (some ⟨g, 0, none⟩) (digs 4294967296 Xc n) := by
        refine ⟨fun i hi => ⟨g, 0, rfl, ?_, ?_⟩, digs_limb _ _⟩
        · exact (HO.out.lt g rfl).2
        · rw [vals_length, digs_len] at hi
          rw [ownL_limbs HO.out (show n ≤ N + 1 by omega) i hi, vals_get _ _ _ (by rw [digs_len]; exact hi), digs_get _ _ _ hi]
      have hsh := pshr_any (some ⟨g, 0, none⟩) n C up _ wr (digs_len _ _ _) hrd (by omega) (by omega) (by omega) (by omega)
      rw [lval_digs _ _ hXn] at hsh
      have hdv : Xc / 2 ^ up = X % Y := by rw [hXe, Nat.mul_div_cancel _ (Nat.two_pow_pos up)]
      have HSH : Hid (Calls Tryd.prog 90 #[.slice (some ⟨g, 0, none⟩) n C, .int .i64 up] wr (ShrTo wr (X % Y))) := Lib.hid (hsh.mono fun e w' ⟨A', c', he, h1, h2, h3, h4⟩ => by
        rw [hdv] at he h1 h2
        exact ⟨A', c', _, he, ⟨h1, h2, h3⟩, h4⟩)
      obtain ⟨hql, -, -, hqc⟩ := own_limbs HQ.out (digs_limb _ _)
      have hQT : Q < 4294967296 ^ T := by
        have h1 : Q * Y2 < Y2 * 4294967296 ^ T := by have := HSUM.out; have := HST.out; omega
        rw [Nat.mul_comm Y2] at h1
        exact Nat.lt_of_mul_lt_mul_right h1
      have HNQ := Lib.hid (fun wx (hb : Below wr.heap.size wr wx) => pnorm_any (some ⟨gq, 0, none⟩) T T _ wx (digs_len _ _ _) (hql.below hb) (Nat.le_refl _) (by omega) (by omega))
      rw [lval_digs _ _ hQT, hQe] at HNQ
      have hnC : n ≤ C := by omega
      clear hq hQe hXe hXn hrd hsh hdv hql hqc hQT hlt0 ej HLT HSUM HMOD
      go_wp2_with fail
      refine HSH.out.mono ?_
      rintro e w8 ⟨A8, c8, b8, rfl, hc8, hb8⟩
      have C8 := Lib.hid hc8
      have B8 := Lib.hid hb8
      clear hc8 hb8
      go_wp2_with fail
      refine (HNQ.out _ B8.out).mono ?_
      rintro e w9 ⟨A9, c9, rfl, hc9, hl9, hm9, hb9⟩
      have C9 := Lib.hid (CanC.mk hc9 hl9 hm9)
      have B9 := Lib.hid hb9
      clear hc9 hl9 hm9 hb9
      go_wp2_with fail
      try rw [Exit.noGoto_ret]
      go_ret3
      exact ⟨A9, c9, A8, c8, rfl, C9.out, C8.out.below B9.out, (HB.out.trans (B8.out.mono HB.out.size)).trans (B9.out.mono (by have := HB.out.size; have := B8.out.size; omega))⟩
    · have ej : ((j + 1 : Nat) : Int) - 1 = (j : Int) := by omega
      rw [ej]
      clear ej
      have HLT2 := long_top Xc Y2 j k HLT.out HYN.out
      have hR := HLT2.1
      have htop := HLT2.2.1
      have hx3 := HLT2.2.2
      clear HLT2
      have hg0 := guess_start (Xc / 4294967296 ^ j) Y2 k hR (by rw [HHIGH.out]; exact hhg) (by rw [HHIGH.out]; exact hhl)
      have GI0 := Lib.hid hg0.1
      have ch := ownL_cell HO.out (i := j + n) (by omega)
      have cm := ownL_cell HO.out (i := j + (k + 1)) (by omega)
      have cl := ownL_cell HO.out (i := j + k) (by omega)
      rw [HK.out] at ch
      rw [← HK.out] at ch
      have hbh : Xc / 4294967296 ^ (j + n) % 4294967296 < 4294967296 := Nat.mod_lt _ (by decide)
      have hbm : Xc / 4294967296 ^ (j + (k + 1)) % 4294967296 < 4294967296 := Nat.mod_lt _ (by decide)
      have hbl : Xc / 4294967296 ^ (j + k) % 4294967296 < 4294967296 := Nat.mod_lt _ (by decide)
      rw [← HK.out] at htop
      have hor := or64_add _ _ hbh hbm
      rw [htop] at hor
      rw [HHIGH.out] at GI0
      have HX3 := Lib.hid hx3
      obtain ⟨R, hRR⟩ : ∃ R, Xc / 4294967296 ^ j = R := ⟨_, rfl⟩
      have HRR := Lib.hid hRR
      rw [hRR] at hR hor GI0 HX3
      have hRt : R / 4294967296 ^ (k + 1) < 18446744073709551616 := by rw [← hRR, ← htop]; omega
      obtain ⟨top, htp⟩ : ∃ top, R / 4294967296 ^ (k + 1) = top := ⟨_, rfl⟩
      have HTOP := Lib.hid htp
      rw [htp] at hor GI0 hRt
      clear hRR htp htop hx3 hg0
      generalize Xc / 4294967296 ^ (j + n) % 4294967296 = xh at *
      generalize Xc / 4294967296 ^ (j + (k + 1)) % 4294967296 = xm at *
      obtain ⟨x3, hx3⟩ : ∃ x3, Xc / 4294967296 ^ (j + k) % 4294967296 = x3 := ⟨_, rfl⟩
      rw [hx3] at cl hbl HX3
      clear hx3
      obtain ⟨k1, hk1e⟩ : ∃ k1, k + 1 = k1 := ⟨_, rfl⟩
      have HK1 := Lib.hid hk1e
      rw [hk1e] at cm
      have s1 : IntKind.i64.wrap ((j : Int) + n) = (j : Int) + n := IntWalk.i64_in _ (by omega)
      have s2 : IntKind.i64.wrap ((j : Int) + n - 1) = (j : Int) + k1 := by rw [show (j : Int) + n - 1 = (j : Int) + k1 by omega]; exact IntWalk.i64_in _ (by omega)
      have s3 : ((j : Int) + n).toNat = j + n := by omega
      have s4 : ((j : Int) + k1).toNat = j + k1 := by omega
      have s5 : (0 : Int) ≤ (j : Int) + n := by omega
      have s6 : (j : Int) + n < (N : Int) + 1 := by omega
      have s7 : (0 : Int) ≤ (j : Int) + k1 := by omega
      have s8 : (j : Int) + k1 < (N : Int) + 1 := by omega
      have u1 : IntKind.u64.wrap (xh : Int) = xh := IntWalk.u64_in _ (by omega)
      have u2 : IntKind.u64.wrap (xm : Int) = xm := IntWalk.u64_in _ (by omega)
      have u3 : IntKind.u64.wrap ((xh : Int) * 4294967296) = (xh : Int) * 4294967296 := IntWalk.u64_in _ (by omega)
      clear hk1e
      go_wp2_with fail
      go_quiet (fail)
      clear s1 s2 s3 s4 s5 s6 s7 s8 u1 u2 u3 hor ch cm
      go_wp2_with fail
      have v1 : ((high : Int) == 0) = false := by rw [beq_eq_false_iff_ne]; omega
      have v2 : (0 : Int) < high := by omega
      have v3 := u64_quo top high hRt
      have v4 := v3.2
      have v5 := v3.1
      clear v3
      have F5 : Hid (∀ a b, LongSt w g N C gq T gy n Y2 Xc Q k j x3 ((wr.drewN a).drewN b)) := Lib.hid (fun a b => ⟨HO.out, HQ.out, HLY.out, below_drewN' (below_drewN' HB.out a) b, cl⟩)
      go_quiet (fail)
      generalize hw5 : ((wr.drewN _).drewN _) = w5
      have hf5 : LongSt w g N C gq T gy n Y2 Xc Q k j x3 w5 := by rw [← hw5]; exact F5.out _ _
      have F := Lib.hid hf5
      clear v1 v2 v4 v5 hf5 hw5 F5 HO HQ HLY HB cl
      go_upto_block 2 with fail
      go_cut [15] (fun v15 wx => GuessOut R Y2 w5 v15 wx)
      case first =>
        go_wp2_with fail
        go_loop [15, 16] (fun v15 v16 => GuessRel R Y2 k v15 v16) (fun v15 _ => (intOf v15).toNat)
        case atStart => exact ⟨_, _, rfl, rfl, GI0.out⟩
        case round =>
          obtain ⟨gu, re, rfl, rfl, ginv⟩ := hrel
          have GI := Lib.hid ginv
          have hre := ginv.rest
          have hgle := ginv.le
          clear ginv
          have c3 := F.out.c
          have s9 : (0 : Int) ≤ (j : Int) + k := by omega
          have s10 : (j : Int) + k < (N : Int) + 1 := by omega
          have s11 : (j : Int) + n - 2 = (j : Int) + k := by omega
          have s12 : ((j : Int) + k).toNat = j + k := by omega
          have hdn := fun ht => guess_down R Y2 k gu re hR (by rw [HHIGH.out]; exact hhg) (by rw [HHIGH.out]; exact hhl) GI.out ht
          rw [HHIGH.out, HNEXT.out, ← HX3.out] at hdn
          have HDN := Lib.hid hdn
          clear hdn
          by_cases hbig : 4294967296 ≤ gu
          · obtain ⟨d1, d2, d3, d4⟩ := HDN.out (Or.inl hbig)
            have D3 := Lib.hid d3
            have D4 := Lib.hid d4
            have hbI : (4294967296 : Int) ≤ (gu : Int) := by omega
            clear d3 d4 HDN
            by_cases hbr : 4294967296 ≤ re + high
            · have hbrI : (4294967296 : Int) ≤ (re : Int) + high := by omega
              go_wp2_with fail
              go_meet
              case rel => exact ⟨gu - 1, by congr 1; omega, D4.out hbr, rfl⟩
            · have hbrI : ¬ (4294967296 : Int) ≤ (re : Int) + high := by omega
              go_wp2_with fail
              go_round
              case rel => exact ⟨gu - 1, re + high, by congr 1; omega, rfl, D3.out (by omega)⟩
              case measure => simp [intOf]; omega
          · have hbI : ¬ (4294967296 : Int) ≤ (gu : Int) := by omega
            have hzb : gu * next ≤ 4294967295 * 4294967295 := Nat.mul_le_mul (by omega) (by omega)
            have hzI : (gu : Int) * (next : Int) = ((gu * next : Nat) : Int) := rfl
            have hor2 := or64_add re x3 hre hbl
            have hst := guess_stop R Y2 k gu re (by rw [HHIGH.out]; exact hhg) GI.out (by omega)
            rw [HNEXT.out, ← HX3.out] at hst
            have HSTOP := Lib.hid hst
            clear hst
            obtain ⟨z, hz⟩ : ∃ z, gu * next = z := ⟨_, rfl⟩
            rw [hz] at hzb hzI HDN HSTOP
            have hz64 : IntKind.u64.wrap (z : Int) = z := IntWalk.u64_in _ (by omega)
            have hr64 : IntKind.u64.wrap ((re : Int) * 4294967296) = (re : Int) * 4294967296 := IntWalk.u64_in _ (by omega)
            have hx64 : IntKind.u64.wrap (x3 : Int) = x3 := IntWalk.u64_in _ (by omega)
            have hyb : re * 4294967296 + x3 < 18446744073709551616 := by omega
            obtain ⟨y, hy⟩ : ∃ y, re * 4294967296 + x3 = y := ⟨_, rfl⟩
            rw [hy] at hor2 hyb HDN HSTOP
            clear hz hy
            by_cases ht : y < z
            · obtain ⟨d1, d2, d3, d4⟩ := HDN.out (Or.inr ht)
              have D3 := Lib.hid d3
              have D4 := Lib.hid d4
              have htI : (y : Int) < (z : Int) := by omega
              clear d3 d4 HDN HSTOP
              by_cases hbr : 4294967296 ≤ re + high
              · have hbrI : (4294967296 : Int) ≤ (re : Int) + high := by omega
                go_wp2_with fail
                go_meet
                case rel => exact ⟨gu - 1, by congr 1; omega, D4.out hbr, rfl⟩
              · have hbrI : ¬ (4294967296 : Int) ≤ (re : Int) + high := by omega
                go_wp2_with fail
                go_round
                case rel => exact ⟨gu - 1, re + high, by congr 1; omega, rfl, D3.out (by omega)⟩
                case measure => simp [intOf]; omega
            · have htI : ¬ (y : Int) < (z : Int) := by omega
              have HE := Lib.hid (HSTOP.out ht)
              clear HDN HSTOP
              go_wp2_with fail
              go_meet
              case rel => exact ⟨gu, rfl, HE.out, rfl⟩
      case rest =>
        obtain ⟨gu, rfl, gend, rfl⟩ := hcut
        have hY0 : 0 < Y2 := by
          rcases Nat.eq_zero_or_pos Y2 with h | h
          · subst h; omega
          · exact h
        have GE := Lib.hid gend
        have hgl := gend.2.2
        clear gend
        have HB5 := Lib.hid F.out.B
        have HO := Lib.hid F.out.O
        have HQ := Lib.hid F.out.Q
        have HL := Lib.hid F.out.L
        clear F GI0
        by_cases hg0 : gu = 0
        · subst hg0
          have HLT0 : Hid (Xc < Y2 * 4294967296 ^ j) := Lib.hid (long_none Xc Y2 j hY0 (Nat.eq_zero_of_le_zero (by rw [HRR.out]; exact GE.out.1)))
          go_wp2_with fail
          go_roundw
          case rel => exact ⟨j, Xc, Q, rfl, by omega, HO.out, HQ.out, HL.out, HLT0.out, HSUM.out, mod_down Q j HMOD.out, HB5.out⟩
          case measure => simp [intOf]
        · have hg0I : ((gu : Int) == 0) = false := by rw [beq_eq_false_iff_ne]; omega
          have hjc : j + n + 1 ≤ C := by omega
          have hjN : j + n + 1 ≤ N + 1 := by omega
          have hjC : ¬ C = j := by omega
          have hgq2 : gq ≠ g := by omega
          have hgq3 : gy ≠ gq := by omega
          have hge2 := GE.out
          rw [← HRR.out] at hge2
          unfold GuessEnd at hge2
          rw [long_div] at hge2
          have HGE := Lib.hid hge2
          have hqd : Xc / (Y2 * 4294967296 ^ j) < 4294967296 := by omega
          have hroom := long_room Xc Y2 j n HLT.out (by rw [HK.out]; exact HYN.out)
          have hdr := digit_room Xc (Y2 * 4294967296 ^ j) (4294967296 ^ (j + n + 1)) gu hge2.2.1 hroom.2
          have hcomm : Y2 * gu * 4294967296 ^ j = gu * (Y2 * 4294967296 ^ j) := by rw [Nat.mul_comm Y2, Nat.mul_assoc]
          obtain ⟨D, hD⟩ : ∃ D, gu * (Y2 * 4294967296 ^ j) + D = Xc + 4294967296 ^ (j + n + 1) := ⟨Xc + 4294967296 ^ (j + n + 1) - gu * (Y2 * 4294967296 ^ j), by omega⟩
          have hbel := below_any wc w.heap.size g (N + 1) C j n Xc Y2 gu D (C - j) Cy gy 0 HO.out hjN (by omega) HL.out hgy hroom.1 (by rw [HK.out]; exact HYN.out) hgl (by omega) (by rw [hcomm]; exact hD)
          rw [hcomm, show n + 1 = j + n + 1 - j by omega] at hbel
          have HBEL := Lib.hid hbel
          have HDD := Lib.hid hD
          have HRM := Lib.hid hroom
          have HNX := Lib.hid (long_next Xc Y2 Q j X2 hY0 HSUM.out HMOD.out)
          have HPOS : Hid (0 < Y2 * 4294967296 ^ j) := Lib.hid (Nat.mul_pos hY0 (pow_posL j))
          clear hbel hD hcomm hdr hroom hge2
          have hgb : w.heap.size ≤ gq ∧ w.heap.size ≤ g := by omega
          by_cases hbo : Xc < gu * (Y2 * 4294967296 ^ j)
          · rw [decide_eq_true hbo] at HBEL
            obtain ⟨q1, q2, q3⟩ := digit_yes Xc _ _ D gu HGE.out.1 HGE.out.2.1 HPOS.out HDD.out HRM.out.1 hbo
            have Q3 := Lib.hid q3
            have Q1 := Lib.hid q1
            have HDP : Hid (D % 4294967296 ^ (j + n + 1) < 4294967296 ^ (j + n + 1)) := Lib.hid (Nat.mod_lt _ (pow_posL _))
            have hgq1 : gu - 1 = Xc / (Y2 * 4294967296 ^ j) := by omega
            have hguI : (gu : Int) - 1 = ((Xc / (Y2 * 4294967296 ^ j) : Nat) : Int) := by omega
            obtain ⟨qd, hqde⟩ : ∃ qd, Xc / (Y2 * 4294967296 ^ j) = qd := ⟨_, rfl⟩
            have HQD := Lib.hid hqde
            rw [hqde] at hguI hqd HNX
            clear q1 q2 q3 hgq1 hqde hbo HGE GE
            go_wp2_with fail
            refine HBEL.out.mono ?_
            rintro e w6 ⟨rfl, ho6, hg6⟩
            have HQ6 : Hid (OwnL w6 w.heap.size (.slice (some ⟨gq, 0, none⟩) T T) Q T) := Lib.hid (World.ownsRow.kept HQ.out hg6 (Or.inr (by simp [Value.ownBlock]; omega)))
            have HL6 := Lib.hid (HL.out.grown hg6 hgy)
            have HB6 := Lib.hid (HB5.out.grown hg6 HB5.out.size (fun k hk => by injection hk with hk; omega))
            have hback := back_any w6 w.heap.size g (N + 1) C j n _ Y2 (C - j) Cy gy 0 ho6 hjN (by omega) HL6.out hgy HDP.out (by rw [HK.out]; exact HYN.out)
            rw [show n + 1 = j + n + 1 - j by omega] at hback
            have e9 : j + (j + n + 1 - j) = j + n + 1 := by omega
            have HBACK : Hid (Calls Tryd.prog 126 #[.slice (some ⟨g, j, none⟩) (j + n + 1 - j) (C - j), .slice (some ⟨gy, 0, none⟩) n Cy] w6
              fun e w' => e = .returned (.tuple #[]) ∧ RowPost w6 w.heap.size g (N + 1) C (Xc % (Y2 * 4294967296 ^ j)) w') := Lib.hid (by
                have h := hback
                rw [Q3.out] at h
                exact h)
            clear hback e9 ho6 hg6
            go_wp2_with fail
            refine HBACK.out.mono ?_
            rintro e w7 ⟨rfl, ho7, hg7⟩
            have HQ7 : Hid (OwnL w7 w.heap.size (.slice (some ⟨gq, 0, none⟩) T T) Q T) := Lib.hid (World.ownsRow.kept HQ6.out hg7 (Or.inr (by simp [Value.ownBlock]; omega)))
            have HL7 := Lib.hid (HL6.out.grown hg7 hgy)
            have HB7 := Lib.hid (HB6.out.grown hg7 HB6.out.size (fun k hk => by injection hk with hk; omega))
            have HOO := Lib.hid ho7
            clear ho7 hg7
            have hstj : (0 : Int) ≤ (j : Int) := by omega
            have hjTI : (j : Int) < (T : Int) := by omega
            have hfz := HQ7.out.frozenAt j
            have hcj := ownL_cell HQ7.out (i := j) (by omega)
            have HPUT := Lib.hid (ownL_put HQ7.out (by omega) hqd HMOD.out)
            have hqm : (qd : Int) % 4294967296 = qd := by omega
            go_wp2_with fail
            go_roundw
            case rel => exact ⟨j, Xc % (Y2 * 4294967296 ^ j), Q + qd * 4294967296 ^ j, rfl, by omega, World.ownsRow.kept HOO.out HPUT.out.2 (Or.inr (by simp [Value.ownBlock]; omega)), HPUT.out.1, HL7.out.grown HPUT.out.2 hgq3, HNX.out.1, HNX.out.2.1, HNX.out.2.2, HB7.out.setCell (p := ⟨gq, j, none⟩) hgb.1 _⟩
            case measure => simp [intOf]
          · rw [decide_eq_false hbo] at HBEL
            obtain ⟨q1, q2⟩ := digit_no Xc _ _ D gu HGE.out.1 HGE.out.2.1 HPOS.out HDD.out HRM.out.1 (by omega)
            have Q2 := Lib.hid q2
            rw [← q1] at HNX
            have hqd2 := hgl
            clear q1 q2 hbo HGE GE
            go_wp2_with fail
            refine HBEL.out.mono ?_
            rintro e w6 ⟨rfl, ho6, hg6⟩
            rw [Q2.out] at ho6
            have HOO := Lib.hid ho6
            have HQ6 : Hid (OwnL w6 w.heap.size (.slice (some ⟨gq, 0, none⟩) T T) Q T) := Lib.hid (World.ownsRow.kept HQ.out hg6 (Or.inr (by simp [Value.ownBlock]; omega)))
            have HL6 := Lib.hid (HL.out.grown hg6 hgy)
            have HB6 := Lib.hid (HB5.out.grown hg6 HB5.out.size (fun k hk => by injection hk with hk; omega))
            clear ho6 hg6
            have hstj : (0 : Int) ≤ (j : Int) := by omega
            have hjTI : (j : Int) < (T : Int) := by omega
            have hfz := HQ6.out.frozenAt j
            have hcj := ownL_cell HQ6.out (i := j) (by omega)
            have HPUT := Lib.hid (ownL_put HQ6.out (by omega) hgl HMOD.out)
            have hqm : (gu : Int) % 4294967296 = gu := by omega
            go_wp2_with fail
            go_roundw
            case rel => exact ⟨j, Xc % (Y2 * 4294967296 ^ j), Q + gu * 4294967296 ^ j, rfl, by omega, World.ownsRow.kept HOO.out HPUT.out.2 (Or.inr (by simp [Value.ownBlock]; omega)), HPUT.out.1, HL6.out.grown HPUT.out.2 hgq3, HNX.out.1, HNX.out.2.1, HNX.out.2.2, HB6.out.setCell (p := ⟨gq, j, none⟩) hgb.1 _⟩
            case measure => simp [intOf]
end Go.Proofs.YtgckfilmhnapeaaDoor

namespace Go.Proofs.YtgckfilmhnapeaaDoor
open Go.RowKit
set_option linter.unusedVariables false

theorem ll_mono {X Y : Nat} (h : X ≤ Y) : ll X ≤ ll Y := ll_le X (ll Y) (Nat.lt_of_le_of_lt h (lt_powL Y))
theorem ll_one (Y : Nat) (h : ll Y = 1) : Y < 4294967296 := by have := lt_powL Y; rw [h, Nat.pow_one] at this; exact this
theorem ll_nz (Y : Nat) (h : Y ≠ 0) : 0 < ll Y := ll_pos Y h
set_option maxRecDepth 100000 in
set_option maxHeartbeats 2000000 in
theorem div_any (A B : Option Addr) (X Y c d : Nat) (w : World) (hA : CanC w A c X) (hB : CanC w B d Y) (hY : Y ≠ 0) (hl : ll X ≤ 300000) (hl2 : ll Y ≤ 300000) :
    Calls Tryd.prog 55 #[.slice A (ll X) c, .slice B (ll Y) d] w (DivPost w (X / Y) (X % Y)) := by
  have H1 := Lib.hid (norm_can A X c w hA.can hA.le hA.max (by omega))
  have H2 := Lib.hid (fun wx (hb : Below w.heap.size w wx) => norm_can B Y d wx (hB.can.below hb) hB.le hB.max (by omega))
  have hp := ll_nz Y hY
  clear hA hB
  go_enter Tryd.func55, Tryd.ntmps55
  go_wp2_with fail
  refine H1.out.mono ?_
  rintro e w1 ⟨A1, c1, rfl, hc1, hl1, hm1, hb1⟩
  have C1 := Lib.hid (CanC.mk hc1 hl1 hm1)
  have B1 := Lib.hid hb1
  clear hc1 hl1 hm1 hb1
  go_wp2_with fail
  refine (H2.out _ B1.out).mono ?_
  rintro e w2 ⟨A2, c2, rfl, hc2, hl2', hm2, hb2⟩
  have C2 := Lib.hid (CanC.mk hc2 hl2' hm2)
  have C1' := Lib.hid (C1.out.below hb2)
  have B2 : Hid (Below w.heap.size w w2) := Lib.hid (B1.out.trans (hb2.mono B1.out.size))
  have hne0 : ((ll Y : Int) == 0) = false := by rw [beq_eq_false_iff_ne]; omega
  clear hc2 hl2' hm2 hb2 H1 H2 C1
  by_cases h1 : ll Y = 1
  · have hYb := ll_one Y h1
    have hlY : (dig 4294967296 Y).length = 1 := h1
    obtain ⟨ba, oa, hae, ha0⟩ := C2.out.can.val (i := 0) (by rw [hlY]; decide)
    subst hae
    rw [dig_getDL, Nat.pow_zero, Nat.div_one, Nat.mod_eq_of_lt hYb, Nat.add_zero] at ha0
    have HS := Lib.hid (small_can A1 X c1 Y w2 C1'.out.can (by omega) (by omega) hYb)
    have hrb : X % Y < 18446744073709551616 := Nat.lt_trans (Nat.mod_lt _ (by omega)) (by omega)
    have hr64 : IntKind.u64.wrap ((X % Y : Nat) : Int) = ((X % Y : Nat) : Int) := IntWalk.u64_in _ (by omega)
    have HF := Lib.hid (fun wx => pfrom_any (X % Y) hrb wx)
    rw [h1] at hne0 ⊢
    obtain ⟨R, hR⟩ : ∃ R, X % Y = R := ⟨_, rfl⟩
    have HR := Lib.hid hR
    unfold SmallPost at HS
    rw [hR] at HS HF hr64 ⊢
    clear hrb hR
    go_wp2_with fail
    refine HS.out.mono ?_
    rintro e w3 ⟨A3, c3, rfl, hc3, hl3, hm3, hb3, -⟩
    have C3 := Lib.hid (CanC.mk hc3 hl3 hm3)
    have B3 := Lib.hid (B2.out.trans (hb3.mono B2.out.size))
    clear hc3 hl3 hm3 hb3
    go_wp2_with fail
    refine (HF.out _).mono ?_
    rintro e w4 ⟨A4, c4, rfl, hc4, hl4, hm4, hb4⟩
    have C4 := Lib.hid (CanC.mk hc4 hl4 hm4)
    have C3' := Lib.hid (C3.out.below hb4)
    have B4 := Lib.hid (B3.out.trans (hb4.mono B3.out.size))
    clear hc4 hl4 hm4 hb4
    go_wp2_with fail
    go_ret3
    exact ⟨A3, c3, A4, c4, by rw [HR.out]; rfl, C3'.out, by rw [HR.out]; exact C4.out, B4.out⟩
  · have hne1 : ((ll Y : Int) == 1) = false := by rw [beq_eq_false_iff_ne]; omega
    have HC := Lib.hid (cmp_can A1 A2 X Y c1 c2 w2 C1'.out.can C2.out.can C1'.out.le C2.out.le C1'.out.max C2.out.max (by omega) (by omega))
    by_cases hlt : X < Y
    · have hz : cmpZ X Y = -1 := if_pos hlt
      rw [hz] at HC
      have hd : X / Y = 0 ∧ X % Y = X := ⟨Nat.div_eq_of_lt hlt, Nat.mod_eq_of_lt hlt⟩
      have HD := Lib.hid hd
      clear hd hz hlt
      go_wp2_with fail
      refine HC.out.mono ?_
      rintro e w3 ⟨rfl, hb3⟩
      have C3 := Lib.hid (C1'.out.below hb3)
      have B3 := Lib.hid (B2.out.trans (hb3.mono B2.out.size))
      clear hb3
      go_wp2_with fail
      go_ret3
      refine ⟨none, 0, A1, c1, ?_, ?_, ?_, B3.out⟩
      · rw [HD.out.1, HD.out.2, ll_zero']; rfl
      · rw [HD.out.1]; exact ⟨zeros_can _, by rw [ll_zero']; exact Nat.le_refl _, by decide⟩
      · rw [HD.out.2]; exact C3.out
    · have hz : ¬ cmpZ X Y < 0 := by
        unfold cmpZ
        rw [if_neg hlt]
        split <;> omega
      have hmono := ll_mono (show Y ≤ X by omega)
      have HL := Lib.hid (fun wx (hb : Below w2.heap.size w2 wx) => long_any A1 A2 X Y c1 c2 wx (C1'.out.below hb) (C2.out.below hb) (by omega) hmono (by omega))
      clear hmono hlt
      generalize cmpZ X Y = z at *
      go_wp2_with fail
      refine HC.out.mono ?_
      rintro e w3 ⟨rfl, hb3⟩
      have HB3 := Lib.hid hb3
      clear hb3
      go_wp2_with fail
      refine (HL.out _ HB3.out).mono ?_
      rintro e w4 ⟨A3, c3, A4, c4, rfl, hc3, hc4, hb4⟩
      have C3 := Lib.hid hc3
      have C4 := Lib.hid hc4
      have B3 := Lib.hid (B2.out.trans (HB3.out.mono B2.out.size))
      have B4 := Lib.hid (B3.out.trans (hb4.mono B3.out.size))
      clear hc3 hc4 hb4
      go_wp2_with fail
      go_ret3
      exact ⟨A3, c3, A4, c4, rfl, C3.out, C4.out, B4.out⟩
end Go.Proofs.YtgckfilmhnapeaaDoor
