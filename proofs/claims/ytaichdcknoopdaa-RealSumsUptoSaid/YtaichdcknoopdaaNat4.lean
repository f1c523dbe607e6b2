/- Contracts of crucibleref01, fourth part: Sub, Shl, Shr. -/
import Derived.Test.YtaichdcknoopdaaNat3
namespace Go.Proofs.Ytaichdcknoopdaa
open Go.RowKit

/-- a number and true are handed back -/
def NatPost2 (w : World) (N : Nat) (e : Ending) (w' : World) : Prop :=
  ∃ A c, e = .returned (.tuple #[.slice A (ll N) c, .bool true]) ∧ CanAt w' A N ∧ ll N ≤ c ∧ c ≤ 9223372036854775807 ∧ Below w.heap.size w w'
/-- there is none -/
def NonePost (w : World) (e : Ending) (w' : World) : Prop := e = .returned (.tuple #[.slice none 0 0, .bool false]) ∧ Below w.heap.size w w'

set_option maxRecDepth 100000 in
set_option maxHeartbeats 1000000 in
theorem sub_none (A B : Option Addr) (N M c d : Nat) (w : World) (hA : CanAt w A N) (hB : CanAt w B M) (hm : ll N ≤ 262144) (hm2 : ll M ≤ 262144) (hlt : N < M) :
    Calls Try.prog 65 #[.slice A (ll N) c, .slice B (ll M) d] w (NonePost w) := by
  have hc : cmpZ N M = -1 := by unfold cmpZ; rw [if_pos hlt]
  have HC := Lib.hid (cmp_ref A B N M c d w hA hB (by omega) (by omega))
  clear hA hB
  go_enter Try.func65, Try.ntmps65
  go_wp2_with fail
  refine HC.out.mono ?_
  rw [hc]
  rintro e w1 ⟨rfl, h1⟩
  clear hc
  go_wp2_with fail
  go_ret2
  exact ⟨rfl, h1⟩

set_option maxRecDepth 100000 in
set_option maxHeartbeats 4000000 in
theorem sub_ref (A B : Option Addr) (D M c d : Nat) (w : World) (hA : CanAt w A (M + D)) (hB : CanAt w B M) (hm : ll (M + D) ≤ 262144) (hm2 : ll M ≤ 262144) :
    Calls Try.prog 65 #[.slice A (ll (M + D)) c, .slice B (ll M) d] w (NatPost2 w D) := by
  have hcz : cmpZ (M + D) M < 0 ↔ False := by unfold cmpZ; constructor; (intro h; rw [if_neg (by omega)] at h; split at h <;> omega); (intro h; cases h)
  have HA := Lib.hid hA
  have HB := Lib.hid hB
  clear hA hB
  have l1 := b4 (M + D)
  have l2 := b4 M
  obtain ⟨i0, hi, hz0, hz1, hz2⟩ := info_parts info_int
  have hz : decide (cmpZ (M + D) M < 0) = false := decide_eq_false (by rw [hcz]; exact id)
  clear hcz
  go_enter Try.func65, Try.ntmps65
  go_wp2_with fail
  refine (cmp_ref A B (M + D) M c d w HA.out HB.out (by omega) (by omega)).mono ?_
  rintro e w0 ⟨rfl, hb0⟩
  generalize cmpZ (M + D) M = cz at *
  have B0 := Lib.hid hb0
  clear hb0
  go_wp2_with fail
  refine (bytes_can A (M + D) c w0 (HA.out.below B0.out) (by omega)).mono ?_
  rintro e w1 ⟨A1, c1, rfl, h1, h2, h3, h4⟩
  have R1 := Lib.hid h1
  have B1 : Hid (Below w.heap.size w w1) := Lib.hid (B0.out.trans (h4.mono B0.out.size))
  clear h1 h4
  go_wp2_with fail
  refine (bytes_can B M d w1 (HB.out.below B1.out) (by omega)).mono ?_
  rintro e w2 ⟨A2, c2, rfl, h5, h6, h7, h8⟩
  have R2 := Lib.hid h5
  have R1' := Lib.hid (R1.out.below h8)
  have B2 : Hid (Below w.heap.size w w2) := Lib.hid (B1.out.trans (h8.mono B1.out.size))
  clear h5 h8 R1
  have HD : Hid (bval 256 (digs 256 D (dig 256 (M + D)).length) = D) := Lib.hid (digs_all _ _ _ (Nat.lt_of_le_of_lt (Nat.le_add_left D M) (lt_dig_len (by decide) (M + D))))
  have HL : Hid (∀ k, k < (dig 256 (M + D)).length → ∃ b off, A1 = some ⟨b, off, none⟩ ∧ w2.cell? ⟨b, off + k, none⟩ = some (.int .i64 (((M + D) / 256 ^ k % 256 : Nat) : Int)) ∧ b < w2.heap.size) := Lib.hid (by
    intro k hk
    obtain ⟨b, off, q1, q2⟩ := R1'.out.val hk
    rw [dig_getD] at q2
    refine ⟨b, off, q1, q2, ?_⟩
    obtain ⟨b', off', p1, p2, _⟩ := R1'.out k (by rw [vals_length]; exact hk)
    rw [q1] at p1
    injection p1 with p1
    injection p1 with p1
    omega)
  go_wp2_with fail
  go_loopw [8, 9, 10] (fun v c i wr => DigRel w2 D (carry M D) (dig 256 (M + D)).length v c i wr) (fun _ _ i _ => (dig 256 (M + D)).length - (intOf i).toNat)
  case atStart => exact ⟨0, Nat.zero_le _, rfl, by rw [carry_zero]; rfl, ⟨rfl, .inl ⟨rfl, rfl⟩⟩, Below.refl _ _⟩
  case round =>
    obtain ⟨k, hk, rfl, rfl, hown, hbel⟩ := hrel
    have HO := Lib.hid hown
    have HB2 := Lib.hid hbel
    clear hown hbel
    by_cases hlt : k < (dig 256 (M + D)).length
    · obtain ⟨b, off, rfl, hcell0, hbb⟩ := HL.out k hlt
      have hcell := (HB2.out.cell (p := ⟨b, off + k, none⟩) hbb).trans hcell0
      clear hcell0 hbb
      obtain ⟨st1, st2⟩ := borrow_step M D k
      have hcl := carry_le M D k
      have hx1 : (M + D) / 256 ^ k % 256 < 256 := Nat.mod_lt _ (by decide)
      have hy1 : M / 256 ^ k % 256 < 256 := Nat.mod_lt _ (by decide)
      have hz1' : D / 256 ^ k % 256 < 256 := Nat.mod_lt _ (by decide)
      have hdg := digs_succ 256 D k
      have C2 : ∀ q, Calls Try.prog 73 #[.slice A2 (dig 256 M).length c2, .int .i64 k] (wr.drewN q) fun e w' => e = .returned (.int .i64 ((M / 256 ^ k % 256 : Nat) : Int)) ∧ wr.drewN q = w' := by
        intro q
        have := at_any A2 c2 M k (wr.drewN q) ((R2.out.below HB2.out).drewN q) (by omega)
        rwa [Int.toNat_natCast] at this
      generalize (M + D) / 256 ^ k % 256 = x at *
      generalize M / 256 ^ k % 256 = y at *
      generalize D / 256 ^ k % 256 = z at *
      generalize carry M D k = cr at *
      generalize hcr2 : carry M D (k + 1) = cr2 at *
      have CC2 := Lib.hid C2
      have ST1 := Lib.hid st1
      have ST2 := Lib.hid st2
      have HDG := Lib.hid hdg
      have HCR := Lib.hid hcr2
      clear C2 st1 st2 hdg hcr2
      have r1 : IntKind.i64.wrap ((x : Int) - y) = (x : Int) - y := IntWalk.i64_in _ (by omega)
      have r2 : IntKind.i64.wrap ((x : Int) - y - cr) = (x : Int) - y - cr := IntWalk.i64_in _ (by omega)
      have r3 : (k : Int) < (dig 256 (M + D)).length := by omega
      have r4 : 0 ≤ (k : Int) := by omega
      by_cases hxy : x < y + cr
      · obtain ⟨hq1, hq2⟩ := ST1.out hxy
        have r5 : IntKind.i64.wrap ((x : Int) - y - cr + 256) = (x : Int) - y - cr + 256 := IntWalk.i64_in _ (by omega)
        have HQ1 := Lib.hid hq1
        have HQ2 := Lib.hid hq2
        clear hq1 hq2
        go_wp2_with fail
        go_quiet ((go_at_call 73; exact quiet_same (CC2.out _)))
        go_wp2_with (at_builtin; refine wpList_append_own _ rfl _ _ 103 rfl w2.heap.size 3 i0 (.int .i64 0) 1 8 Try.underlying103 hi hz0 hz1 hz2 rfl (by decide) _ _ _ rfl (HO.out.alloc _) ⟨wr.heap.size, 0, none⟩ 1 1 [.int .i64 ((x : Int) - y - cr + 256)] rfl rfl ?c1 ?c2 ?c3 ?c4 ?c5 ?_)
        case c1 => exact (cell_one_new _ _ _)
        case c2 => exact one_oneCell rfl
        case c3 => unfold maxLen; omega
        case c4 => omega
        case c5 => have := HB2.out.size; simp; omega
        intro v2 w3 hown2 hg2 _
        have HO2 := Lib.hid hown2
        have HB3 := Lib.hid (((below_drewN' HB2.out _).alloc HB2.out.size _).grown hg2 (by have := HB2.out.size; simp; omega) (fun q hq => (HO.out.lt q hq).1))
        clear hown2 hg2
        go_wp2_with fail
        go_roundw
        case rel =>
          refine ⟨k + 1, by omega, by go_num, by rw [HCR.out, HQ2.out]; rfl, ?_, HB3.out⟩
          rw [HDG.out, vals_append, vals_one, show ((z : Nat) : Int) = (x : Int) - y - cr + 256 from by have := HQ1.out; omega]
          exact HO2.out
        case measure => simp [intOf]; omega
      · obtain ⟨hq1, hq2⟩ := ST2.out (by omega)
        have HQ1 := Lib.hid hq1
        have HQ2 := Lib.hid hq2
        clear hq1 hq2
        go_wp2_with fail
        go_quiet ((go_at_call 73; exact quiet_same (CC2.out _)))
        go_wp2_with (at_builtin; refine wpList_append_own _ rfl _ _ 103 rfl w2.heap.size 3 i0 (.int .i64 0) 1 8 Try.underlying103 hi hz0 hz1 hz2 rfl (by decide) _ _ _ rfl (HO.out.alloc _) ⟨wr.heap.size, 0, none⟩ 1 1 [.int .i64 ((x : Int) - y - cr)] rfl rfl ?c1 ?c2 ?c3 ?c4 ?c5 ?_)
        case c1 => exact (cell_one_new _ _ _)
        case c2 => exact one_oneCell rfl
        case c3 => unfold maxLen; omega
        case c4 => omega
        case c5 => have := HB2.out.size; simp; omega
        intro v2 w3 hown2 hg2 _
        have HO2 := Lib.hid hown2
        have HB3 := Lib.hid (((below_drewN' HB2.out _).alloc HB2.out.size _).grown hg2 (by have := HB2.out.size; simp; omega) (fun q hq => (HO.out.lt q hq).1))
        clear hown2 hg2
        go_wp2_with fail
        go_roundw
        case rel =>
          refine ⟨k + 1, by omega, by go_num, by rw [HCR.out, HQ2.out]; rfl, ?_, HB3.out⟩
          rw [HDG.out, vals_append, vals_one, show ((z : Nat) : Int) = (x : Int) - y - cr from by have := HQ1.out; omega]
          exact HO2.out
        case measure => simp [intOf]; omega
    · obtain rfl : k = (dig 256 (M + D)).length := by omega
      obtain ⟨A', c', rfl, hnc, hcm, hcl', hrd⟩ := own_rd HO.out
      have RD := Lib.hid hrd
      clear hrd
      unfold maxLen at hcm
      go_wp2_with fail
      refine (limbs_any A' _ c' (digs 256 D (dig 256 (M + D)).length) wr (digs_len _ _ _) RD.out (digs_lt _ _ _ (by decide)) hnc (by omega) (by omega)).mono ?_
      rw [HD.out]
      rintro e w' ⟨A3, c3, rfl, h1, h2, h3, h4⟩
      have H1 := Lib.hid h1
      have H4 := Lib.hid h4
      clear h1 h4
      go_wp2_with fail
      go_ret2
      exact ⟨A3, c3, rfl, H1.out, h2, h3, (B2.out.trans (HB2.out.mono B2.out.size)).trans (H4.out.mono (B2.out.trans (HB2.out.mono B2.out.size)).size)⟩

theorem blen_dig (N : Nat) : blen N ≤ 8 * (dig 256 N).length := by
  have h := lt_dig_len (b := 256) (by decide) N
  generalize (dig 256 N).length = L at *
  rw [blen_iff, Nat.pow_mul]
  exact h

theorem zeros_can (w : World) : CanAt w none 0 := by unfold CanAt; rw [dig_zero]; exact Rd.nil
theorem ll_zero : ll 0 = 0 := by unfold ll; rw [dig_zero]; rfl

def ShlRel (w : World) (z : Nat) (S : Nat) (C : Nat → Nat) (bound : Nat) (v c i : Value) (wr : World) : Prop :=
  ∃ k : Nat, k ≤ bound ∧ i = .int .i64 k ∧ c = .int .i64 ((C k : Nat) : Int) ∧ wr.ownsRow w.heap.size 3 1 v (z + k) (vals .i64 (List.replicate z 0 ++ digs 256 S k)) ∧ Below w.heap.size w wr

theorem shl_val (N n L : Nat) (hL : N < 256 ^ L) : bval 256 (List.replicate (n / 8) 0 ++ digs 256 (N * 2 ^ (n % 8)) (L + 1)) = N * 2 ^ n := by
  rw [bval_append, bval_replicate, List.length_replicate, Nat.zero_add, digs_all]
  · have e : 256 ^ (n / 8) = 2 ^ (8 * (n / 8)) := by rw [Nat.pow_mul]
    rw [e, Nat.mul_left_comm, ← Nat.pow_add]
    congr 2; omega
  · have h1 : 2 ^ (n % 8) ≤ 2 ^ 8 := Nat.pow_le_pow_right (by decide) (by omega)
    have h2 : N * 2 ^ (n % 8) ≤ N * 256 := Nat.mul_le_mul_left _ h1
    rw [Nat.pow_succ]
    omega

set_option maxRecDepth 100000 in
set_option maxHeartbeats 4000000 in
theorem shl_ref (A : Option Addr) (N n c : Nat) (w : World) (hA : CanAt w A N) (hm : ll N ≤ 131072) (hn : n ≤ 1048576) :
    Calls Try.prog 63 #[.slice A (ll N) c, .int .i64 n] w (NatPost2 w (N * 2 ^ n)) := by
  have HA := Lib.hid hA
  clear hA
  have l1 := b4 N
  obtain ⟨i0, hi, hz0, hz1, hz2⟩ := info_parts info_int
  by_cases hN : N = 0
  · subst hN
    rw [Nat.zero_mul]
    go_enter Try.func63, Try.ntmps63
    go_wp2_with fail
    refine (bytes_can A 0 c w HA.out (by omega)).mono ?_
    rw [dig_zero]
    rintro e w1 ⟨A1, c1, rfl, -, -, -, h4⟩
    go_wp2_with fail
    go_ret2
    exact ⟨none, 0, by rw [ll_zero] <;> rfl, zeros_can _, by rw [ll_zero]; exact Nat.le_refl _, by omega, h4⟩
  · have hL : (dig 256 N).length ≠ 0 := (dig_last (by decide) N hN).1
    have hL0 : ((((dig 256 N).length : Nat) : Int) == 0) = false := by rw [beq_eq_false_iff_ne]; omega
    have hbl : blen N ≤ 4194304 := Nat.le_trans (blen_dig N) (by omega)
    have hp8 : 2 ^ (n % 8) ≤ 128 := by
      have : 2 ^ (n % 8) ≤ 2 ^ 7 := Nat.pow_le_pow_right (by decide) (by omega)
      exact this
    have hp0 : 0 < 2 ^ (n % 8) := Nat.two_pow_pos _
    have HV := Lib.hid (shl_val N n (dig 256 N).length (lt_dig_len (by decide) N))
    go_enter Try.func63, Try.ntmps63
    go_wp2_with fail
    refine (bytes_can A N c w HA.out (by omega)).mono ?_
    rintro e w1 ⟨A1, c1, rfl, h1, h2, h3, h4⟩
    have R1 := Lib.hid h1
    have B1 := Lib.hid h4
    clear h1 h4
    go_wp2_with fail
    refine (len_any A N c w1 (HA.out.below B1.out) (by omega)).mono ?_
    rintro e w2 ⟨rfl, h5⟩
    have R2 := Lib.hid (R1.out.below h5)
    have B2 : Hid (Below w.heap.size w w2) := Lib.hid (B1.out.trans (h5.mono B1.out.size))
    clear h5
    go_wp2_with (at_make; refine wpList_make_full _ rfl _ _ 103 rfl w2.heap.size 3 i0 (.int .i64 0) 1 Try.underlying103 hi hz0 hz1 _ _ _ _ (n / 8) rfl rfl ?c0 ?c1 ?c2 ?c3 ?c4 ?_)
    case c0 => omega
    case c1 => omega
    case c2 => rw [hz2]; omega
    case c3 => unfold maxLen; omega
    case c4 => exact Nat.le_refl _
    intro w3 hown3 hg3
    rw [made_vals] at hown3
    have HO3 := Lib.hid hown3
    have HB3 : Hid (Below w2.heap.size w2 w3) := Lib.hid ((Below.refl _ _).grown hg3 (Nat.le_refl _) (fun _ h => by cases h))
    clear hown3 hg3
    go_wp2_with fail
    go_loopw [7, 8, 9] (fun v c i wr => ShlRel w2 (n / 8) (N * 2 ^ (n % 8)) (pcarry N (2 ^ (n % 8))) (dig 256 N).length v c i wr) (fun _ _ i _ => (dig 256 N).length - (intOf i).toNat)
    case atStart => exact ⟨0, Nat.zero_le _, rfl, by rw [pcarry_zero]; rfl, by rw [digs_zero, List.append_nil]; exact HO3.out, HB3.out⟩
    case round =>
      obtain ⟨k, hk, rfl, rfl, hown, hbel⟩ := hrel
      have HO := Lib.hid hown
      have HB := Lib.hid hbel
      clear hown hbel
      have hcl := pcarry_lt N (2 ^ (n % 8)) k hp0
      by_cases hlt : k < (dig 256 N).length
      · obtain ⟨b, off, rfl, hcell⟩ := (R2.out.below HB.out).val hlt
        rw [dig_getD] at hcell
        obtain ⟨st1, st2⟩ := pcarry_step N (2 ^ (n % 8)) k
        have hdg := digs_succ 256 (N * 2 ^ (n % 8)) k
        rw [← st1] at hdg
        have hx1 : N / 256 ^ k % 256 < 256 := Nat.mod_lt _ (by decide)
        have PW : ∀ q, Calls Try.prog 72 #[.int .i64 ((n : Int) % 8)] (wr.drewN q) fun e w' => e = .returned (.int .i64 ((2 ^ (n % 8) : Nat) : Int)) ∧ wr.drewN q = w' := by
          intro q
          have := power_any (n % 8) (by omega) (wr.drewN q)
          rwa [show (((n % 8 : Nat)) : Int) = (n : Int) % 8 from by omega] at this
        have HPW := Lib.hid PW
        have HDG := Lib.hid hdg
        have HST := Lib.hid st2
        clear PW hdg st1 st2
        have hmul : N / 256 ^ k % 256 * 2 ^ (n % 8) ≤ 255 * 128 := Nat.mul_le_mul (by omega) hp8
        generalize hX : N / 256 ^ k % 256 = x at *
        generalize hP : 2 ^ (n % 8) = p at *
        generalize hC : pcarry N p k = cr at *
        have e1 : ((x * p : Nat) : Int) = (x : Int) * p := by push_cast; rfl
        have r1 : IntKind.i64.wrap ((x : Int) * p) = (x : Int) * p := IntWalk.i64_in _ (by omega)
        have r2 : IntKind.i64.wrap ((x : Int) * p + cr) = (x : Int) * p + cr := IntWalk.i64_in _ (by omega)
        have r3 : (k : Int) < (dig 256 N).length := by omega
        have r4 : 0 ≤ (k : Int) := by omega
        have r5 : (n : Int).tmod 8 = (n : Int) % 8 := by rw [Int.tmod_eq_emod_of_nonneg (by omega)]
        have r6 : IntKind.i64.wrap ((n : Int) % 8) = (n : Int) % 8 := IntWalk.i64_in _ (by omega)
        have E1 := Lib.hid e1
        clear e1 hX hP hC
        have hs0 : 0 ≤ (x : Int) * p + cr := by have := E1.out; omega
        have hs1 : (x : Int) * p + cr ≤ 40000 := by have := E1.out; omega
        go_wp2_with fail
        go_quiet ((go_at_call 72; exact quiet_same (HPW.out _)))
        go_wp2_with (at_builtin; refine wpList_append_own _ rfl _ _ 103 rfl w2.heap.size 3 i0 (.int .i64 0) 1 8 Try.underlying103 hi hz0 hz1 hz2 rfl (by decide) _ _ _ rfl (HO.out.alloc _) ⟨wr.heap.size, 0, none⟩ 1 1 [.int .i64 (((x : Int) * p + cr) % 256)] rfl rfl ?c1 ?c2 ?c3 ?c4 ?c5 ?_)
        case c1 => exact (cell_one_new _ _ _)
        case c2 => exact one_oneCell rfl
        case c3 => unfold maxLen; omega
        case c4 => omega
        case c5 => have := HB.out.size; simp; omega
        intro v2 w4 hown2 hg2 _
        have HO2 := Lib.hid hown2
        have HB4 := Lib.hid (((below_drewN' HB.out _).alloc HB.out.size _).grown hg2 (by have := HB.out.size; simp; omega) (fun q hq => (HO.out.lt q hq).1))
        clear hown2 hg2
        go_wp2_with fail
        go_roundw
        case rel =>
          have e2 : (((x * p + cr : Nat)) : Int) = (x : Int) * p + cr := by have := E1.out; omega
          refine ⟨k + 1, by omega, by go_num, ?_, ?_, HB4.out⟩
          · rw [← HST.out]
            have : (((x * p + cr) / 256 : Nat) : Int) = ((x : Int) * p + cr) / 256 := by rw [← e2]; omega
            rw [this]
          · rw [HDG.out, ← List.append_assoc, vals_append, vals_one, show ((((x * p + cr) % 256 : Nat)) : Int) = ((x : Int) * p + cr) % 256 from by rw [← e2]; omega]
            exact HO2.out
        case measure => simp [intOf]; omega
      · obtain rfl : k = (dig 256 N).length := by omega
        have hd : digs 256 (N * 2 ^ (n % 8)) ((dig 256 N).length + 1) = digs 256 (N * 2 ^ (n % 8)) (dig 256 N).length ++ [pcarry N (2 ^ (n % 8)) (dig 256 N).length] := by
          have hm1 : pcarry N (2 ^ (n % 8)) (dig 256 N).length % 256 = pcarry N (2 ^ (n % 8)) (dig 256 N).length := by
            generalize 2 ^ (n % 8) = p at *
            exact Nat.mod_eq_of_lt (by omega)
          rw [digs_succ, pcarry_eq, Nat.div_eq_of_lt (lt_dig_len (by decide) N), Nat.zero_mul, Nat.zero_add, hm1]
        have HDD := Lib.hid hd
        clear hd hlt
        generalize pcarry N (2 ^ (n % 8)) (dig 256 N).length = cr at *
        go_wp2_with (at_builtin; refine wpList_append_own _ rfl _ _ 103 rfl w2.heap.size 3 i0 (.int .i64 0) 1 8 Try.underlying103 hi hz0 hz1 hz2 rfl (by decide) _ _ _ rfl (HO.out.alloc _) ⟨wr.heap.size, 0, none⟩ 1 1 [.int .i64 cr] rfl rfl ?c1 ?c2 ?c3 ?c4 ?c5 ?_)
        case c1 => exact (cell_one_new _ _ _)
        case c2 => exact one_oneCell rfl
        case c3 => unfold maxLen; omega
        case c4 => omega
        case c5 => have := HB.out.size; simp; omega
        intro v2 w4 hown2 hg2 _
        have hown3 : w4.ownsRow w2.heap.size 3 1 v2 (n / 8 + (dig 256 N).length + 1) (vals .i64 (List.replicate (n / 8) 0 ++ digs 256 (N * 2 ^ (n % 8)) ((dig 256 N).length + 1))) := by
          rw [HDD.out, ← List.append_assoc, vals_append, vals_one]; exact hown2
        have HB4 := Lib.hid ((HB.out.alloc HB.out.size _).grown hg2 (by have := HB.out.size; simp; omega) (fun q hq => (HO.out.lt q hq).1))
        obtain ⟨A', c', rfl, hnc, hcm, hcl', hrd⟩ := own_rd hown3
        have RD := Lib.hid hrd
        clear hrd hown2 hg2 hown3
        unfold maxLen at hcm
        go_wp2_with fail
        refine (limbs_any A' _ c' (List.replicate (n / 8) 0 ++ digs 256 (N * 2 ^ (n % 8)) ((dig 256 N).length + 1)) w4 (by rw [List.length_append, List.length_replicate, digs_len]; omega) RD.out ?_ hnc (by omega) (by omega)).mono ?_
        · intro x hx
          rcases List.mem_append.1 hx with h | h
          · rw [List.eq_of_mem_replicate h]; decide
          · exact digs_lt _ _ _ (by decide) x h
        rw [HV.out]
        rintro e w' ⟨A3, c3, rfl, h1, h2, h3, h4⟩
        have H1 := Lib.hid h1
        have H4 := Lib.hid h4
        clear h1 h4
        go_wp2_with fail
        go_ret2
        exact ⟨A3, c3, rfl, H1.out, h2, h3, (B2.out.trans (HB4.out.mono B2.out.size)).trans (H4.out.mono (B2.out.trans (HB4.out.mono B2.out.size)).size)⟩
end Go.Proofs.Ytaichdcknoopdaa
