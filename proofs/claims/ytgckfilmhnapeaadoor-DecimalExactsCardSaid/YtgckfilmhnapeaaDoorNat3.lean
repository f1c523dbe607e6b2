/- Contracts of crucibleref01, third part: at, power, Len, Cmp, Add, Sub. -/
import Derived.Test.YtgckfilmhnapeaaDoorNat2
import Derived.Test.YtgckfilmhnapeaaDoorNum2
namespace Go.Proofs.YtgckfilmhnapeaaDoor
open Go.RowKit

theorem power_ix0 (w : World) : (Instr.index 163 (.agg #[.int .i64 1, .int .i64 2, .int .i64 4, .int .i64 8, .int .i64 16, .int .i64 32, .int .i64 64, .int .i64 128]) (.int .i64 0)).run Tryd.prog w = .ok (.int .i64 1) w := by kernel_rfl
theorem power_ix1 (w : World) : (Instr.index 163 (.agg #[.int .i64 1, .int .i64 2, .int .i64 4, .int .i64 8, .int .i64 16, .int .i64 32, .int .i64 64, .int .i64 128]) (.int .i64 1)).run Tryd.prog w = .ok (.int .i64 2) w := by kernel_rfl
theorem power_ix2 (w : World) : (Instr.index 163 (.agg #[.int .i64 1, .int .i64 2, .int .i64 4, .int .i64 8, .int .i64 16, .int .i64 32, .int .i64 64, .int .i64 128]) (.int .i64 2)).run Tryd.prog w = .ok (.int .i64 4) w := by kernel_rfl
theorem power_ix3 (w : World) : (Instr.index 163 (.agg #[.int .i64 1, .int .i64 2, .int .i64 4, .int .i64 8, .int .i64 16, .int .i64 32, .int .i64 64, .int .i64 128]) (.int .i64 3)).run Tryd.prog w = .ok (.int .i64 8) w := by kernel_rfl
theorem power_ix4 (w : World) : (Instr.index 163 (.agg #[.int .i64 1, .int .i64 2, .int .i64 4, .int .i64 8, .int .i64 16, .int .i64 32, .int .i64 64, .int .i64 128]) (.int .i64 4)).run Tryd.prog w = .ok (.int .i64 16) w := by kernel_rfl
theorem power_ix5 (w : World) : (Instr.index 163 (.agg #[.int .i64 1, .int .i64 2, .int .i64 4, .int .i64 8, .int .i64 16, .int .i64 32, .int .i64 64, .int .i64 128]) (.int .i64 5)).run Tryd.prog w = .ok (.int .i64 32) w := by kernel_rfl
theorem power_ix6 (w : World) : (Instr.index 163 (.agg #[.int .i64 1, .int .i64 2, .int .i64 4, .int .i64 8, .int .i64 16, .int .i64 32, .int .i64 64, .int .i64 128]) (.int .i64 6)).run Tryd.prog w = .ok (.int .i64 64) w := by kernel_rfl
theorem power_ix7 (w : World) : (Instr.index 163 (.agg #[.int .i64 1, .int .i64 2, .int .i64 4, .int .i64 8, .int .i64 16, .int .i64 32, .int .i64 64, .int .i64 128]) (.int .i64 7)).run Tryd.prog w = .ok (.int .i64 128) w := by kernel_rfl
theorem power_ix (j : Nat) (hj : j < 8) (w : World) : (Instr.index 163 (.agg #[.int .i64 1, .int .i64 2, .int .i64 4, .int .i64 8, .int .i64 16, .int .i64 32, .int .i64 64, .int .i64 128]) (.int .i64 (j : Int))).run Tryd.prog w = .ok (.int .i64 ((2 ^ j : Nat) : Int)) w := by
  have : j = 0 ∨ j = 1 ∨ j = 2 ∨ j = 3 ∨ j = 4 ∨ j = 5 ∨ j = 6 ∨ j = 7 := by omega
  rcases this with rfl | rfl | rfl | rfl | rfl | rfl | rfl | rfl
  · exact power_ix0 w
  · exact power_ix1 w
  · exact power_ix2 w
  · exact power_ix3 w
  · exact power_ix4 w
  · exact power_ix5 w
  · exact power_ix6 w
  · exact power_ix7 w

theorem power_any (k : Nat) (hk : k < 8) (w : World) :
    Calls Tryd.prog 134 #[.int .i64 k] w fun e w' => e = .returned (.int .i64 ((2 ^ k : Nat) : Int)) ∧ w = w' := by
  have h := power_ix k hk w
  go_enter Tryd.func134, Tryd.ntmps134
  go_wp2
  go_ret
  exact ⟨rfl, rfl⟩

def LenRel (t L : Nat) (x n : Value) : Prop := ∃ j : Nat, j ≤ blen t ∧ x = .int .i64 ((t / 2 ^ j : Nat) : Int) ∧ n = .int .i64 ((8 * (L - 1) + j : Nat) : Int)

theorem ret_int' {k : IntKind} {a b : Int} (h : a = b) : Ending.returned (.int k a) = .returned (.int k b) := by rw [h]
theorem half_zero (t j : Nat) : t / 2 ^ j = 0 ↔ blen t ≤ j := by
  rw [blen_iff, Nat.div_eq_zero_iff]
  have := Nat.two_pow_pos j
  omega

set_option maxRecDepth 100000 in
set_option maxHeartbeats 1000000 in
theorem len_any (A : Option Addr) (N cap : Nat) (w : World) (h : CanAt w A N) (hm : ll N ≤ 1048576) :
    Calls Tryd.prog 133 #[.slice A (ll N) cap] w fun e w' => e = .returned (.int .i64 (blen N)) ∧ Below w.heap.size w w' := by
  have H := Lib.hid h
  clear h
  have hlb : (dig 256 N).length ≤ 4 * ll N := dig_len_le (by decide) N _ (by rw [show 256 ^ (4 * ll N) = 4294967296 ^ ll N from by rw [Nat.pow_mul]]; exact lt_dig_len (by decide) N)
  by_cases hN : N = 0
  · subst hN
    go_enter Tryd.func133, Tryd.ntmps133
    go_wp2_with fail
    refine (bytes_can A 0 cap w H.out hm).mono ?_
    rw [dig_zero]
    rintro e w1 ⟨A1, c1, rfl, -, -, -, h4⟩
    go_wp2_with fail
    go_ret
    exact ⟨rfl, h4⟩
  · have hL : (dig 256 N).length ≠ 0 := (dig_last (by decide) N hN).1
    have hL0 : ((((dig 256 N).length : Nat) : Int) == 0) = false := by rw [beq_eq_false_iff_ne]; omega
    go_enter Tryd.func133, Tryd.ntmps133
    go_wp2_with fail
    refine (bytes_can A N cap w H.out hm).mono ?_
    rintro e w1 ⟨A1, c1, rfl, h1, h2, h3, h4⟩
    have HT := Lib.hid (dig_top N hN).1
    have HBT := Lib.hid (blen_top N hN)
    obtain ⟨b, off, rfl, hcell⟩ := h1.val (show (dig 256 N).length - 1 < (dig 256 N).length by omega)
    rw [HT.out] at hcell
    have htl : N / 256 ^ ((dig 256 N).length - 1) < 256 := by
      rw [← HT.out, dig_getD]; exact Nat.mod_lt _ (by decide)
    have HB := Lib.hid h4
    clear h1 h4 HT
    generalize N / 256 ^ ((dig 256 N).length - 1) = t at *
    generalize (dig 256 N).length = L at *
    go_wp2_with fail
    go_loop [4, 5] (fun n x => LenRel t L x n) (fun _ x => (intOf x).toNat)
    case atStart => exact ⟨0, by omega, by simp, by congr 1; omega⟩
    case round =>
      obtain ⟨j, hj, rfl, rfl⟩ := hrel
      have hxl : t / 2 ^ j < 256 := Nat.lt_of_le_of_lt (Nat.div_le_self _ _) htl
      have hbl : blen t ≤ 8 := (blen_iff t 8).2 htl
      by_cases hz : t / 2 ^ j = 0
      · have hj2 : j = blen t := by have := (half_zero t j).1 hz; omega
        rw [hz]
        clear hz
        go_wp2_with fail
        go_ret
        exact ⟨ret_int' (by have := HBT.out; omega), HB.out⟩
      · have hj2 : j < blen t := by
          rcases Nat.lt_or_ge j (blen t) with g | g
          · exact g
          · exact absurd ((half_zero t j).2 g) hz
        have HD : Hid (t / 2 ^ j / 2 = t / 2 ^ (j + 1)) := Lib.hid (by rw [Nat.pow_succ, Nat.div_div_eq_div_mul])
        have hx0 : 0 < ((t / 2 ^ j : Nat) : Int) := Int.natCast_pos.2 (Nat.pos_of_ne_zero hz)
        clear hz
        generalize t / 2 ^ j = x at *
        go_wp2_with fail
        refine ⟨⟨j + 1, by omega, by rw [← HD.out]; go_num, by congr 1⟩, by simp [intOf]; omega⟩

def CmpRel (w2 : World) (N M : Nat) (i : Value) (wr : World) : Prop :=
  ∃ k q : Nat, wr = w2.drewN q ∧ k ≤ (dig 256 N).length ∧ ((k = 0 ∧ i = .int .i64 (-1)) ∨ (∃ j : Nat, k = j + 1 ∧ i = .int .i64 j)) ∧ N / 256 ^ k = M / 256 ^ k

set_option maxRecDepth 100000 in
set_option maxHeartbeats 2000000 in
theorem cmp_ref (A B : Option Addr) (N M c d : Nat) (w : World) (hA : CanAt w A N) (hB : CanAt w B M) (hm : ll N ≤ 1048576) (hm2 : ll M ≤ 1048576) :
    Calls Tryd.prog 120 #[.slice A (ll N) c, .slice B (ll M) d] w fun e w' => e = .returned (.int .i64 (cmpZ N M)) ∧ Below w.heap.size w w' := by
  have HA := Lib.hid hA
  have HB := Lib.hid hB
  clear hA hB
  have hb4 : ∀ X, (dig 256 X).length ≤ 4 * ll X := fun X => dig_len_le (by decide) X _ (by rw [show 256 ^ (4 * ll X) = 4294967296 ^ ll X from by rw [Nat.pow_mul]]; exact lt_dig_len (by decide) X)
  have l1 := hb4 N
  have l2 := hb4 M
  clear hb4
  go_enter Tryd.func120, Tryd.ntmps120
  go_wp2_with fail
  refine (bytes_can A N c w HA.out hm).mono ?_
  rintro e w1 ⟨A1, c1, rfl, h1, h2, h3, h4⟩
  have R1 := Lib.hid h1
  have B1 := Lib.hid h4
  clear h1 h4
  go_wp2_with fail
  refine (bytes_can B M d w1 (HB.out.below B1.out) hm2).mono ?_
  rintro e w2 ⟨A2, c2, rfl, h5, h6, h7, h8⟩
  have R2 := Lib.hid h5
  have R1' := Lib.hid (R1.out.below h8)
  have B2 : Hid (Below w.heap.size w w2) := Lib.hid (B1.out.trans (h8.mono B1.out.size))
  clear h5 h8 R1
  by_cases hlen : (dig 256 N).length = (dig 256 M).length
  · have hbl : ((((dig 256 N).length : Nat) : Int) != (((dig 256 M).length : Nat) : Int)) = false := by rw [hlen]; simp
    have HL := Lib.hid hlen
    clear hlen
    go_wp2_with fail
    go_loopw [7] (fun i wr => CmpRel w2 N M i wr) (fun i _ => (intOf i + 1).toNat)
    case atStart =>
      refine ⟨(dig 256 N).length, 0, rfl, Nat.le_refl _, ?_, ?_⟩
      · by_cases h0 : (dig 256 N).length = 0
        · exact Or.inl ⟨h0, by congr 1; omega⟩
        · exact Or.inr ⟨(dig 256 N).length - 1, by omega, by congr 1; omega⟩
      · rw [Nat.div_eq_of_lt (lt_dig_len (by decide) N), HL.out, Nat.div_eq_of_lt (lt_dig_len (by decide) M)]
    case round =>
      obtain ⟨k, q, rfl, hk, hki, heq⟩ := hrel
      rcases hki with ⟨rfl, rfl⟩ | ⟨j, rfl, rfl⟩
      · have hNM : cmpZ N M = 0 := by
          have : N = M := by simpa using heq
          unfold cmpZ; rw [this]; simp
        have HN := Lib.hid hNM
        clear hNM heq
        go_wp2_with fail
        go_ret
        exact ⟨ret_int' HN.out.symm, below_drewN' B2.out _⟩
      · have HE := Lib.hid heq
        clear heq
        obtain ⟨b, off, rfl, hc1⟩ := R1'.out.val (show j < (dig 256 N).length by omega)
        obtain ⟨b', off', rfl, hc2⟩ := R2.out.val (show j < (dig 256 M).length by have := HL.out; omega)
        rw [dig_getD] at hc1 hc2
        have hl2 : (j : Int) < (dig 256 M).length := by have := HL.out; omega
        have hl1 : (j : Int) < (dig 256 N).length := by omega
        have hl0 : 0 ≤ (j : Int) := by omega
        have hd1 := Lib.hid (digit_lt N M j HE.out)
        have hd2 := Lib.hid (digit_lt M N j HE.out.symm)
        have hd3 := Lib.hid (digit_eq N M j HE.out)
        generalize hx : N / 256 ^ j % 256 = x at *
        generalize hy : M / 256 ^ j % 256 = y at *
        clear hx hy
        rcases Nat.lt_trichotomy x y with g | g | g
        · have g1 : ((x : Int) != (y : Int)) = true := by rw [bne_iff_ne]; omega
          have HN : Hid (cmpZ N M = -1) := Lib.hid (by unfold cmpZ; rw [if_pos (hd1.out g)])
          go_wp2_with fail
          go_quiet (fail)
          go_wp2_with fail
          go_quiet (fail)
          go_wp2_with fail
          go_ret
          exact ⟨ret_int' HN.out.symm, below_drewN' (below_drewN' (below_drewN' B2.out _) _) _⟩
        · subst g
          have g1 : ((x : Int) != (x : Int)) = false := by simp
          have HN := Lib.hid (hd3.out rfl)
          go_wp2_with fail
          go_quiet (fail)
          go_wp2_with fail
          refine ⟨⟨j, _, rfl, by omega, ?_, HN.out⟩, by simp [intOf]⟩
          by_cases hj0 : j = 0
          · exact Or.inl ⟨hj0, by subst hj0; rfl⟩
          · exact Or.inr ⟨j - 1, by omega, by congr 1; omega⟩
        · have g1 : ((x : Int) != (y : Int)) = true := by rw [bne_iff_ne]; omega
          have HN : Hid (cmpZ N M = 1) := Lib.hid (by unfold cmpZ; have := hd2.out g; rw [if_neg (by omega), if_pos this])
          go_wp2_with fail
          go_quiet (fail)
          go_wp2_with fail
          go_quiet (fail)
          go_wp2_with fail
          go_ret
          exact ⟨ret_int' HN.out.symm, below_drewN' (below_drewN' (below_drewN' B2.out _) _) _⟩
  · have hbl : ((((dig 256 N).length : Nat) : Int) != (((dig 256 M).length : Nat) : Int)) = true := by rw [bne_iff_ne]; omega
    by_cases hlt : (dig 256 N).length < (dig 256 M).length
    · have HN : Hid (cmpZ N M = -1) := Lib.hid (by unfold cmpZ; rw [if_pos (len_lt_lt N M hlt)])
      clear hlen
      go_wp2_with fail
      go_ret
      exact ⟨ret_int' HN.out.symm, B2.out⟩
    · have HN : Hid (cmpZ N M = 1) := Lib.hid (by unfold cmpZ; have := len_lt_lt M N (by omega); rw [if_neg (by omega), if_pos this])
      clear hlen
      go_wp2_with fail
      go_ret
      exact ⟨ret_int' HN.out.symm, B2.out⟩

/-- a loop's own row of digits: so many of them -/
def DigRel (w : World) (S : Nat) (C : Nat → Nat) (bound : Nat) (v c i : Value) (wr : World) : Prop :=
  ∃ k : Nat, k ≤ bound ∧ i = .int .i64 k ∧ c = .int .i64 ((C k : Nat) : Int) ∧ wr.ownsRow w.heap.size 3 1 v k (vals .i64 (digs 256 S k)) ∧ Below w.heap.size w wr

theorem b4 (X : Nat) : (dig 256 X).length ≤ 4 * ll X := dig_len_le (by decide) X _ (by rw [show 256 ^ (4 * ll X) = 4294967296 ^ ll X from by rw [Nat.pow_mul]]; exact lt_dig_len (by decide) X)

end Go.Proofs.YtgckfilmhnapeaaDoor
