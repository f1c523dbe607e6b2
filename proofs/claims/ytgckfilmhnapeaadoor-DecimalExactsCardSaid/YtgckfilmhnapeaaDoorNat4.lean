/- Contracts of crucibleref01, fourth part: Sub, Shl, Shr. -/
import Derived.Test.YtgckfilmhnapeaaDoorNat3
namespace Go.Proofs.YtgckfilmhnapeaaDoor
open Go.RowKit

/-- a number and true are handed back -/
def NatPost2 (w : World) (N : Nat) (e : Ending) (w' : World) : Prop :=
  ∃ A c, e = .returned (.tuple #[.slice A (ll N) c, .bool true]) ∧ CanAt w' A N ∧ ll N ≤ c ∧ c ≤ 9223372036854775807 ∧ Below w.heap.size w w'
/-- there is none -/
def NonePost (w : World) (e : Ending) (w' : World) : Prop := e = .returned (.tuple #[.slice none 0 0, .bool false]) ∧ Below w.heap.size w w'

theorem blen_dig (N : Nat) : blen N ≤ 8 * (dig 256 N).length := by
  have h := lt_dig_len (b := 256) (by decide) N
  generalize (dig 256 N).length = L at *
  rw [blen_iff, Nat.pow_mul]
  exact h

theorem zeros_can (w : World) : CanAt w none 0 := by unfold CanAt; rw [dig_zero]; exact Rd.nil
theorem ll_zero : ll 0 = 0 := by unfold ll; rw [dig_zero]; rfl

def ShlRel (w : World) (z : Nat) (S : Nat) (C : Nat → Nat) (bound : Nat) (v c i : Value) (wr : World) : Prop :=
  ∃ k : Nat, k ≤ bound ∧ i = .int .i64 k ∧ c = .int .i64 ((C k : Nat) : Int) ∧ wr.ownsRow w.heap.size 3 1 v (z + k) (vals .i64 (List.replicate z 0 ++ digs 256 S k)) ∧ Below w.heap.size w wr

theorem shl_val (N n L : Nat) (hL : N < 256 ^ L) : bval 256 (List.replicate (n / 8) 0 ++ digs 256 (N * 2 ^ (n % 8)) (L + 1)) = N * 2 ^ n := by
  rw [bval_append, bval_replicate, List.length_replicate, Nat.zero_add, digs_all]
  · have e : 256 ^ (n / 8) = 2 ^ (8 * (n / 8)) := by rw [Nat.pow_mul]
    rw [e, Nat.mul_left_comm, ← Nat.pow_add]
    congr 2; omega
  · have h1 : 2 ^ (n % 8) ≤ 2 ^ 8 := Nat.pow_le_pow_right (by decide) (by omega)
    have h2 : N * 2 ^ (n % 8) ≤ N * 256 := Nat.mul_le_mul_left _ h1
    rw [Nat.pow_succ]
    omega

set_option maxRecDepth 100000 in
set_option maxHeartbeats 4000000 in
theorem shl_ref (A : Option Addr) (N n c : Nat) (w : World) (hA : CanAt w A N) (hm : ll N ≤ 131072) (hn : n ≤ 1048576) :
    Calls Tryd.prog 119 #[.slice A (ll N) c, .int .i64 n] w (NatPost2 w (N * 2 ^ n)) := by
  have HA := Lib.hid hA
  clear hA
  have l1 := b4 N
  obtain ⟨i0, hi, hz0, hz1, hz2⟩ := info_parts info_int
  by_cases hN : N = 0
  · subst hN
    rw [Nat.zero_mul]
    go_enter Tryd.func119, Tryd.ntmps119
    go_wp2_with fail
    refine (bytes_can A 0 c w HA.out (by omega)).mono ?_
    rw [dig_zero]
    rintro e w1 ⟨A1, c1, rfl, -, -, -, h4⟩
    go_wp2_with fail
    go_ret2
    exact ⟨none, 0, by rw [ll_zero] <;> rfl, zeros_can _, by rw [ll_zero]; exact Nat.le_refl _, by omega, h4⟩
  · have hL : (dig 256 N).length ≠ 0 := (dig_last (by decide) N hN).1
    have hL0 : ((((dig 256 N).length : Nat) : Int) == 0) = false := by rw [beq_eq_false_iff_ne]; omega
    have hbl : blen N ≤ 4194304 := Nat.le_trans (blen_dig N) (by omega)
    have hp8 : 2 ^ (n % 8) ≤ 128 := by
      have : 2 ^ (n % 8) ≤ 2 ^ 7 := Nat.pow_le_pow_right (by decide) (by omega)
      exact this
    have hp0 : 0 < 2 ^ (n % 8) := Nat.two_pow_pos _
    have HV := Lib.hid (shl_val N n (dig 256 N).length (lt_dig_len (by decide) N))
    go_enter Tryd.func119, Tryd.ntmps119
    go_wp2_with fail
    refine (bytes_can A N c w HA.out (by omega)).mono ?_
    rintro e w1 ⟨A1, c1, rfl, h1, h2, h3, h4⟩
    have R1 := Lib.hid h1
    have B1 := Lib.hid h4
    clear h1 h4
    go_wp2_with fail
    refine (len_any A N c w1 (HA.out.below B1.out) (by omega)).mono ?_
    rintro e w2 ⟨rfl, h5⟩
    have R2 := Lib.hid (R1.out.below h5)
    have B2 : Hid (Below w.heap.size w w2) := Lib.hid (B1.out.trans (h5.mono B1.out.size))
    clear h5
    go_wp2_with (at_make; refine wpList_make_full _ rfl _ _ 69 rfl w2.heap.size 3 i0 (.int .i64 0) 1 Tryd.underlying69 hi hz0 hz1 _ _ _ _ (n / 8) rfl rfl ?c0 ?c1 ?c2 ?c3 ?c4 ?_)
    case c0 => omega
    case c1 => omega
    case c2 => rw [hz2]; omega
    case c3 => unfold maxLen; omega
    case c4 => exact Nat.le_refl _
    intro w3 hown3 hg3
    rw [made_vals] at hown3
    have HO3 := Lib.hid hown3
    have HB3 : Hid (Below w2.heap.size w2 w3) := Lib.hid ((Below.refl _ _).grown hg3 (Nat.le_refl _) (fun _ h => by cases h))
    clear hown3 hg3
    go_wp2_with fail
    go_loopw [7, 8, 9] (fun v c i wr => ShlRel w2 (n / 8) (N * 2 ^ (n % 8)) (pcarry N (2 ^ (n % 8))) (dig 256 N).length v c i wr) (fun _ _ i _ => (dig 256 N).length - (intOf i).toNat)
    case atStart => exact ⟨0, Nat.zero_le _, rfl, by rw [pcarry_zero]; rfl, by rw [digs_zero, List.append_nil]; exact HO3.out, HB3.out⟩
    case round =>
      obtain ⟨k, hk, rfl, rfl, hown, hbel⟩ := hrel
      have HO := Lib.hid hown
      have HB := Lib.hid hbel
      clear hown hbel
      have hcl := pcarry_lt N (2 ^ (n % 8)) k hp0
      by_cases hlt : k < (dig 256 N).length
      · obtain ⟨b, off, rfl, hcell⟩ := (R2.out.below HB.out).val hlt
        rw [dig_getD] at hcell
        obtain ⟨st1, st2⟩ := pcarry_step N (2 ^ (n % 8)) k
        have hdg := digs_succ 256 (N * 2 ^ (n % 8)) k
        rw [← st1] at hdg
        have hx1 : N / 256 ^ k % 256 < 256 := Nat.mod_lt _ (by decide)
        have PW : ∀ q, Calls Tryd.prog 134 #[.int .i64 ((n : Int) % 8)] (wr.drewN q) fun e w' => e = .returned (.int .i64 ((2 ^ (n % 8) : Nat) : Int)) ∧ wr.drewN q = w' := by
          intro q
          have := power_any (n % 8) (by omega) (wr.drewN q)
          rwa [show (((n % 8 : Nat)) : Int) = (n : Int) % 8 from by omega] at this
        have HPW := Lib.hid PW
        have HDG := Lib.hid hdg
        have HST := Lib.hid st2
        clear PW hdg st1 st2
        have hmul : N / 256 ^ k % 256 * 2 ^ (n % 8) ≤ 255 * 128 := Nat.mul_le_mul (by omega) hp8
        generalize hX : N / 256 ^ k % 256 = x at *
        generalize hP : 2 ^ (n % 8) = p at *
        generalize hC : pcarry N p k = cr at *
        have e1 : ((x * p : Nat) : Int) = (x : Int) * p := by push_cast; rfl
        have r1 : IntKind.i64.wrap ((x : Int) * p) = (x : Int) * p := IntWalk.i64_in _ (by omega)
        have r2 : IntKind.i64.wrap ((x : Int) * p + cr) = (x : Int) * p + cr := IntWalk.i64_in _ (by omega)
        have r3 : (k : Int) < (dig 256 N).length := by omega
        have r4 : 0 ≤ (k : Int) := by omega
        have r5 : (n : Int).tmod 8 = (n : Int) % 8 := by rw [Int.tmod_eq_emod_of_nonneg (by omega)]
        have r6 : IntKind.i64.wrap ((n : Int) % 8) = (n : Int) % 8 := IntWalk.i64_in _ (by omega)
        have E1 := Lib.hid e1
        clear e1 hX hP hC
        have hs0 : 0 ≤ (x : Int) * p + cr := by have := E1.out; omega
        have hs1 : (x : Int) * p + cr ≤ 40000 := by have := E1.out; omega
        go_wp2_with fail
        go_quiet ((go_at_call 134; exact quiet_same (HPW.out _)))
        go_wp2_with (at_builtin; refine wpList_append_own _ rfl _ _ 69 rfl w2.heap.size 3 i0 (.int .i64 0) 1 8 Tryd.underlying69 hi hz0 hz1 hz2 rfl (by decide) _ _ _ rfl (HO.out.alloc _) ⟨wr.heap.size, 0, none⟩ 1 1 [.int .i64 (((x : Int) * p + cr) % 256)] rfl rfl ?c1 ?c2 ?c3 ?c4 ?c5 ?_)
        case c1 => exact (cell_one_new _ _ _)
        case c2 => exact one_oneCell rfl
        case c3 => unfold maxLen; omega
        case c4 => omega
        case c5 => have := HB.out.size; simp; omega
        intro v2 w4 hown2 hg2 _
        have HO2 := Lib.hid hown2
        have HB4 := Lib.hid (((below_drewN' HB.out _).alloc HB.out.size _).grown hg2 (by have := HB.out.size; simp; omega) (fun q hq => (HO.out.lt q hq).1))
        clear hown2 hg2
        go_wp2_with fail
        go_roundw
        case rel =>
          have e2 : (((x * p + cr : Nat)) : Int) = (x : Int) * p + cr := by have := E1.out; omega
          refine ⟨k + 1, by omega, by go_num, ?_, ?_, HB4.out⟩
          · rw [← HST.out]
            have : (((x * p + cr) / 256 : Nat) : Int) = ((x : Int) * p + cr) / 256 := by rw [← e2]; omega
            rw [this]
          · rw [HDG.out, ← List.append_assoc, vals_append, vals_one, show ((((x * p + cr) % 256 : Nat)) : Int) = ((x : Int) * p + cr) % 256 from by rw [← e2]; omega]
            exact HO2.out
        case measure => simp [intOf]; omega
      · obtain rfl : k = (dig 256 N).length := by omega
        have hd : digs 256 (N * 2 ^ (n % 8)) ((dig 256 N).length + 1) = digs 256 (N * 2 ^ (n % 8)) (dig 256 N).length ++ [pcarry N (2 ^ (n % 8)) (dig 256 N).length] := by
          have hm1 : pcarry N (2 ^ (n % 8)) (dig 256 N).length % 256 = pcarry N (2 ^ (n % 8)) (dig 256 N).length := by
            generalize 2 ^ (n % 8) = p at *
            exact Nat.mod_eq_of_lt (by omega)
          rw [digs_succ, pcarry_eq, Nat.div_eq_of_lt (lt_dig_len (by decide) N), Nat.zero_mul, Nat.zero_add, hm1]
        have HDD := Lib.hid hd
        clear hd hlt
        generalize pcarry N (2 ^ (n % 8)) (dig 256 N).length = cr at *
        go_wp2_with (at_builtin; refine wpList_append_own _ rfl _ _ 69 rfl w2.heap.size 3 i0 (.int .i64 0) 1 8 Tryd.underlying69 hi hz0 hz1 hz2 rfl (by decide) _ _ _ rfl (HO.out.alloc _) ⟨wr.heap.size, 0, none⟩ 1 1 [.int .i64 cr] rfl rfl ?c1 ?c2 ?c3 ?c4 ?c5 ?_)
        case c1 => exact (cell_one_new _ _ _)
        case c2 => exact one_oneCell rfl
        case c3 => unfold maxLen; omega
        case c4 => omega
        case c5 => have := HB.out.size; simp; omega
        intro v2 w4 hown2 hg2 _
        have hown3 : w4.ownsRow w2.heap.size 3 1 v2 (n / 8 + (dig 256 N).length + 1) (vals .i64 (List.replicate (n / 8) 0 ++ digs 256 (N * 2 ^ (n % 8)) ((dig 256 N).length + 1))) := by
          rw [HDD.out, ← List.append_assoc, vals_append, vals_one]; exact hown2
        have HB4 := Lib.hid ((HB.out.alloc HB.out.size _).grown hg2 (by have := HB.out.size; simp; omega) (fun q hq => (HO.out.lt q hq).1))
        obtain ⟨A', c', rfl, hnc, hcm, hcl', hrd⟩ := own_rd hown3
        have RD := Lib.hid hrd
        clear hrd hown2 hg2 hown3
        unfold maxLen at hcm
        go_wp2_with fail
        refine (limbs_any A' _ c' (List.replicate (n / 8) 0 ++ digs 256 (N * 2 ^ (n % 8)) ((dig 256 N).length + 1)) w4 (by rw [List.length_append, List.length_replicate, digs_len]; omega) RD.out ?_ hnc (by omega) (by omega)).mono ?_
        · intro x hx
          rcases List.mem_append.1 hx with h | h
          · rw [List.eq_of_mem_replicate h]; decide
          · exact digs_lt _ _ _ (by decide) x h
        rw [HV.out]
        rintro e w' ⟨A3, c3, rfl, h1, h2, h3, h4⟩
        have H1 := Lib.hid h1
        have H4 := Lib.hid h4
        clear h1 h4
        go_wp2_with fail
        go_ret2
        exact ⟨A3, c3, rfl, H1.out, h2, h3, (B2.out.trans (HB4.out.mono B2.out.size)).trans (H4.out.mono (B2.out.trans (HB4.out.mono B2.out.size)).size)⟩
end Go.Proofs.YtgckfilmhnapeaaDoor
