/- The reference's nat: crucibleref01.Norm, Mul. -/
import Derived.Test.YtgckfilmhnapeaaDoorPn9
namespace Go.Proofs.YtgckfilmhnapeaaDoor
open Go.RowKit Go.Lib
set_option linter.unusedVariables false

theorem norm_ref (A : Option Addr) (n cap : Nat) (xs : List Nat) (w : World) (hn : xs.length = n) (hr : Rd w A (vals .u32 xs)) (hx : ∀ x ∈ xs, x < 4294967296) (hm : n ≤ 524288) :
    Calls Tryd.prog 81 #[.slice A n cap] w (NatPost w (bval 4294967296 xs)) := by
  have HB := Lib.hid (bytes_any A n cap xs w hn hr hx (by omega))
  have hlen : (dig 256 (bval 4294967296 xs)).length ≤ 4 * n := by
    have h1 := bval_lt 4294967296 xs hx
    rw [hn, show (4294967296 : Nat) = 256 ^ 4 from by decide, ← Nat.pow_mul] at h1
    exact dig_len_le (by decide) _ _ h1
  have hd := dig_lt (b := 256) (by decide) (bval 4294967296 xs)
  have hv := bval_dig (b := 256) (by decide) (bval 4294967296 xs)
  generalize bval 4294967296 xs = N at *
  have HD := Lib.hid hd
  have HV := Lib.hid hv
  have HL : Hid ((dig 256 N).length ≤ 2097152) := Lib.hid (by omega)
  clear hr hx hn hlen hd hv
  go_enter Tryd.func81, Tryd.ntmps81
  go_wp2_with fail
  refine HB.out.mono ?_
  rintro e w1 ⟨A1, c1, rfl, h1, h2, h3, h4⟩
  have HB1 := Lib.hid h4
  have HLI := Lib.hid (limbs_any A1 _ c1 (dig 256 N) w1 rfl h1 HD.out h2 h3 (by have := HL.out; omega))
  rw [HV.out] at HLI
  clear h1 h2 h3 h4 HB
  go_wp2_with fail
  refine HLI.out.mono ?_
  rintro e w2 ⟨A2, c2, rfl, k1, k2, k3, k4⟩
  have K1 := Lib.hid k1
  have K4 := Lib.hid k4
  clear k1 k4 HLI
  go_wp2_with fail
  go_ret
  exact ⟨A2, c2, rfl, K1.out, k2, k3, HB1.out.trans (K4.out.mono HB1.out.size)⟩

theorem digs_getB (N T t : Nat) (h : t < T) : (digs 256 N T).getD t 0 = N / 256 ^ t % 256 := by
  rw [List.getD_eq_getElem?_getD, List.getElem?_eq_getElem (by rw [digs_len]; exact h)]
  simp [digs]
theorem digs_addB (S z j : Nat) : digs 256 (S + 256 ^ j * z) j = digs 256 S j := by
  unfold digs
  apply List.map_congr_left
  intro t ht
  have ht : t < j := List.mem_range.1 ht
  rw [show j = t + ((j - t - 1) + 1) by omega, Nat.pow_add, Nat.mul_assoc, Nat.add_mul_div_left _ _ (Nat.pow_pos (by decide)), Nat.pow_succ, Nat.mul_comm (256 ^ (j - t - 1)), Nat.mul_assoc, Nat.add_mul_mod_self_left]
/-- the digits of S up to j, behind them those of P: T in all -/
def mixB (S P j T : Nat) : List Nat := digs 256 S j ++ (digs 256 P T).drop j
theorem mixD_lenB (S P j T : Nat) (h : j ≤ T) : (mixB S P j T).length = T := by unfold mixB; rw [List.length_append, List.length_drop, digs_len, digs_len]; omega
theorem mixD_startB (P j T : Nat) (h : j ≤ T) : mixB P P j T = digs 256 P T := by
  unfold mixB
  have : digs 256 P j = (digs 256 P T).take j := by
    unfold digs
    rw [← List.map_take, List.take_range, Nat.min_eq_left h]
  rw [this, List.take_append_drop]
theorem mixD_getB (S P j T : Nat) (h : j < T) : (mixB S P j T).getD j 0 = P / 256 ^ j % 256 := by
  unfold mixB
  rw [List.getD_eq_getElem?_getD, List.getElem?_append_right (by rw [digs_len]; exact Nat.le_refl _), digs_len, Nat.sub_self, List.getElem?_drop, Nat.add_zero, ← List.getD_eq_getElem?_getD, digs_getB P T j h]
theorem mixD_setB (S P z j T : Nat) (h : j < T) : (mixB S P j T).set j ((S + 256 ^ j * z) / 256 ^ j % 256) = mixB (S + 256 ^ j * z) P (j + 1) T := by
  unfold mixB
  rw [digs_succ, digs_addB, List.set_append_right _ _ (by rw [digs_len]; exact Nat.le_refl _), digs_len, Nat.sub_self, List.append_assoc]
  congr 1
  rw [List.drop_eq_getElem_cons (by rw [digs_len]; exact h), List.set_cons_zero]
  rfl
theorem mixD_set0B (S P j T : Nat) (h : j < T) : (mixB S P j T).set j (S / 256 ^ j % 256) = mixB S P (j + 1) T := by
  have := mixD_setB S P 0 j T h
  rw [Nat.mul_zero, Nat.add_zero] at this
  exact this
theorem mixD_endB (S P j T : Nat) (h : j ≤ T) (hS : S < 256 ^ j) (hP : P < 256 ^ j) : mixB S P j T = digs 256 S T := by
  rw [← mixD_startB S j T h]
  unfold mixB
  congr 1
  apply List.ext_getElem
  · simp [digs_len]
  · intro t h1 h2
    simp only [List.getElem_drop]
    unfold digs
    simp only [List.getElem_map, List.getElem_range]
    have hp : 256 ^ j ≤ 256 ^ (j + t) := Nat.pow_le_pow_right (by decide) (by omega)
    rw [Nat.div_eq_of_lt (Nat.lt_of_lt_of_le hP hp), Nat.div_eq_of_lt (Nat.lt_of_lt_of_le hS hp)]
/-- the carry of what is added above the place j -/
def mcarB (S P j : Nat) : Nat := S / 256 ^ j - P / 256 ^ j
theorem mul_stepLB (S P z j : Nat) (hSP : P ≤ S) :
    (mcarB S P j + (z + P / 256 ^ j % 256)) % 256 = (S + 256 ^ j * z) / 256 ^ j % 256 ∧
    (mcarB S P j + (z + P / 256 ^ j % 256)) / 256 = mcarB (S + 256 ^ j * z) P (j + 1) := by
  unfold mcarB
  have h0 : P / 256 ^ j ≤ S / 256 ^ j := Nat.div_le_div_right hSP
  rw [div_succ, div_succ, Nat.add_mul_div_left _ _ (Nat.pow_pos (by decide))]
  generalize S / 256 ^ j = s at *
  generalize P / 256 ^ j = p at *
  omega
theorem mcar_selfB (P j : Nat) : mcarB P P j = 0 := Nat.sub_self _
def mulB (P x Y i k : Nat) : Nat := P + 256 ^ i * x * (Y % 256 ^ k)
theorem mulS_zeroB (P x Y i : Nat) : mulB P x Y i 0 = P := by unfold mulB; rw [Nat.pow_zero, Nat.mod_one]; simp
theorem mulS_succB (P x Y i k : Nat) : mulB P x Y i (k + 1) = mulB P x Y i k + 256 ^ (i + k) * (x * (Y / 256 ^ k % 256)) := by
  unfold mulB
  rw [Nat.mod_pow_succ, Nat.mul_add, ← Nat.add_assoc, Nat.pow_add]
  congr 1
  generalize 256 ^ i = a
  generalize 256 ^ k = b
  generalize Y / b % 256 = y
  rw [Nat.mul_assoc a x, Nat.mul_assoc a b, Nat.mul_left_comm x b]
theorem mulS_leB (P x Y i k : Nat) : P ≤ mulB P x Y i k := Nat.le_add_right _ _
theorem mul_rowB (X Y i : Nat) : X % 256 ^ (i + 1) * Y = X % 256 ^ i * Y + 256 ^ i * (X / 256 ^ i % 256) * Y := by
  rw [Nat.mod_pow_succ, Nat.add_mul]
theorem mul_row_ltB (X Y i m : Nat) (hY : Y < 256 ^ m) : X % 256 ^ i * Y < 256 ^ (i + m) := by
  have h1 : X % 256 ^ i < 256 ^ i := Nat.mod_lt _ (Nat.pow_pos (by decide))
  rw [Nat.pow_add]
  rcases Nat.eq_zero_or_pos Y with h | h
  · subst h; rw [Nat.mul_zero]; exact Nat.mul_pos (Nat.pow_pos (by decide)) (Nat.pow_pos (by decide))
  · exact Nat.lt_of_lt_of_le (Nat.mul_lt_mul_of_pos_right h1 h) (Nat.mul_le_mul_left _ (Nat.le_of_lt hY))


theorem digs_zeros (T : Nat) : digs 256 0 T = List.replicate T 0 := by
  apply List.ext_getElem
  · simp [digs]
  · intro t h1 h2; simp [digs]
def RMO (w : World) (g X Y n m : Nat) (v8 : Value) (wr : World) : Prop :=
  ∃ i : Nat, i ≤ n ∧ v8 = .int .i64 i ∧ wr.ownsRow w.heap.size 3 1 (.slice (some ⟨g, 0, none⟩) (n + m + 1) (n + m + 1)) (n + m + 1) (vals .i64 (digs 256 (X % 256 ^ i * Y) (n + m + 1))) ∧ Below w.heap.size w wr
def RMI (w : World) (g P x Y i n m : Nat) (v9 v10 : Value) (wr : World) : Prop :=
  ∃ k : Nat, k ≤ m ∧ v10 = .int .i64 k ∧ v9 = .int .i64 (mcarB (mulB P x Y i k) P (i + k) : Nat) ∧ mcarB (mulB P x Y i k) P (i + k) < 256 ∧
    wr.ownsRow w.heap.size 3 1 (.slice (some ⟨g, 0, none⟩) (n + m + 1) (n + m + 1)) (n + m + 1) (vals .i64 (mixB (mulB P x Y i k) P (i + k) (n + m + 1))) ∧ Below w.heap.size w wr
def RMC (w : World) (g : Nat) (cy S P i n m : Nat) (v9 v12 : Value) (wr : World) : Prop :=
  ∃ r : Nat, ((r = 0 ∧ v9 = .int .i64 cy) ∨ (r = 1 ∧ v9 = .int .i64 0)) ∧ v12 = .int .i64 ((i + m + r : Nat) : Int) ∧
    wr.ownsRow w.heap.size 3 1 (.slice (some ⟨g, 0, none⟩) (n + m + 1) (n + m + 1)) (n + m + 1) (vals .i64 (mixB S P (i + m + r) (n + m + 1))) ∧ Below w.heap.size w wr

set_option maxRecDepth 100000 in
set_option maxHeartbeats 4000000 in
theorem mul_ref (A B : Option Addr) (X Y c d : Nat) (w : World) (hA : CanAt w A X) (hB : CanAt w B Y) (hl : ll X ≤ 65536) (hl2 : ll Y ≤ 65536) :
    Calls Tryd.prog 46 #[.slice A (ll X) c, .slice B (ll Y) d] w (NatPost w (X * Y)) := by
  obtain ⟨i0, hi, hz0, hz1, hz2⟩ := info_parts info_int
  have H1 := Lib.hid (bytes_can A X c w hA (by omega))
  have HB' := Lib.hid hB
  have hnl : (dig 256 X).length ≤ 4 * 65536 := Nat.le_trans (b4 X) (by omega)
  have hml : (dig 256 Y).length ≤ 4 * 65536 := Nat.le_trans (b4 Y) (by omega)
  have BX := Lib.hid (lt_dig_len (b := 256) (by decide) X)
  have BY := Lib.hid (lt_dig_len (b := 256) (by decide) Y)
  have H2 := Lib.hid (fun wx (h : Below w.heap.size w wx) => bytes_can B Y d wx (HB'.out.below h) (by omega))
  clear hA hB
  go_enter Tryd.func46, Tryd.ntmps46
  go_wp2_with fail
  refine H1.out.mono ?_
  rintro e w2 ⟨A1, c1, rfl, ha1, -, -, ha4⟩
  have RA := Lib.hid ha1
  have B2 := Lib.hid ha4
  clear ha1 ha4
  go_wp2_with fail
  refine (H2.out _ B2.out).mono ?_
  rintro e w3 ⟨A2, c2, rfl, hb1, -, -, hb4⟩
  have RB := Lib.hid hb1
  have RA3 := Lib.hid (RA.out.below hb4)
  have B3 := Lib.hid (B2.out.trans (hb4.mono B2.out.size))
  clear hb1 hb4 H1 H2 RA B2
  obtain ⟨n, hnn⟩ : ∃ n, (dig 256 X).length = n := ⟨_, rfl⟩
  obtain ⟨m, hmm⟩ : ∃ m, (dig 256 Y).length = m := ⟨_, rfl⟩
  have HN := Lib.hid hnn
  have HM := Lib.hid hmm
  rw [hnn] at BX hnl ⊢
  rw [hmm] at BY hml ⊢
  clear hnn hmm hl hl2
  go_wp2_with (at_make; refine wpList_make_full _ rfl _ _ 69 rfl w3.heap.size 3 i0 (.int .i64 0) 1 Tryd.underlying69 hi hz0 hz1 _ _ _ _ (n + m + 1) rfl rfl ?c0 ?c1 ?c2 ?c3 ?c4 ?_)
  (try (case c0 => omega))
  (try (case c1 => omega))
  (try (case c2 => first | (rw [hz2]; omega) | omega))
  (try (case c3 => first | (unfold maxLen; omega) | omega))
  (try (case c4 => exact Nat.le_refl _))
  intro w1 hown1 hg1
  rw [made_vals, ← digs_zeros] at hown1
  have HO1 := Lib.hid hown1
  have HB1 : Hid (Below w3.heap.size w3 w1) := Lib.hid ((Below.refl _ _).grown hg1 (Nat.le_refl _) (fun _ h => by cases h))
  clear hown1 hg1
  obtain ⟨g, hg⟩ : ∃ g, w3.heap.size = g := ⟨_, rfl⟩
  have HG := Lib.hid hg
  rw [hg] at HO1 HB1 ⊢
  clear hg
  go_wp2_with fail
  go_loopw [8] (fun v8 wr => RMO w3 g X Y n m v8 wr) (fun v8 _ => n - (RowKit.intOf v8).toNat)
  case atStart => exact ⟨0, Nat.zero_le _, rfl, by rw [HG.out, Nat.pow_zero, Nat.mod_one, Nat.zero_mul]; exact HO1.out, by rw [HG.out]; exact HB1.out⟩
  case round =>
    obtain ⟨i, hk, rfl, hown, hbel⟩ := hrel
    have HO := Lib.hid hown
    have HB := Lib.hid hbel
    clear hown hbel
    by_cases hkl : i < n
    · have hkI : (i : Int) < (n : Int) := by omega
      have hiN : i < (dig 256 X).length := by have := HN.out; omega
      have HPL := Lib.hid (mul_row_ltB X Y i m BY.out)
      have HPL2 := Lib.hid (mul_row_ltB X Y (i + 1) m BY.out)
      have HROW := Lib.hid (mul_rowB X Y i)
      obtain ⟨wo, rfl⟩ : ∃ wo : World, wo = wr := ⟨_, rfl⟩
      have hx : X / 256 ^ i % 256 < 256 := Nat.mod_lt _ (by decide)
      obtain ⟨x, hxx⟩ : ∃ x, X / 256 ^ i % 256 = x := ⟨_, rfl⟩
      obtain ⟨P, hPP⟩ : ∃ P, X % 256 ^ i * Y = P := ⟨_, rfl⟩
      rw [hxx] at HROW hx
      rw [hPP] at HROW HPL HO
      have HX := Lib.hid hxx
      clear hxx hPP
      go_wp2_with fail
      go_loopw [9, 10] (fun v9 v10 wr => RMI w3 g P x Y i n m v9 v10 wr) (fun _ v10 _ => m - (RowKit.intOf v10).toNat)
      case atStart => exact ⟨0, Nat.zero_le _, rfl, by rw [mulS_zeroB, mcar_selfB]; rfl, by rw [mulS_zeroB, mcar_selfB]; decide, by rw [mulS_zeroB, mixD_startB _ _ _ (by omega)]; exact HO.out, HB.out⟩
      case round =>
        obtain ⟨k, hk2, rfl, rfl, hclt, hown, hbel⟩ := hrel
        have HO2 := Lib.hid hown
        have HB2 := Lib.hid hbel
        clear hown hbel
        by_cases hkm : k < m
        · have hkmI : (k : Int) < (m : Int) := by omega
          have hkN : k < (dig 256 Y).length := by have := HM.out; omega
          obtain ⟨b0, o0, hae, ha1⟩ := (RA3.out.below HB2.out).val hiN
          subst hae
          obtain ⟨bb, ob, hbe, hb1⟩ := (RB.out.below HB2.out).val hkN
          subst hbe
          rw [dig_getD] at ha1 hb1
          rw [HX.out] at ha1
          have hy : Y / 256 ^ k % 256 < 256 := Nat.mod_lt _ (by decide)
          have hcell0 := HO2.out.cellAt (i + k) (by omega)
          rw [vals_get _ _ _ (by rw [mixD_lenB _ _ _ _ (by omega)]; omega), mixD_getB _ _ _ _ (by omega)] at hcell0
          have hfz := HO2.out.frozenAt (i + k)
          have HST := Lib.hid (mul_stepLB (mulB P x Y i k) P (x * (Y / 256 ^ k % 256)) (i + k) (mulS_leB P x Y i k))
          rw [← mulS_succB] at HST
          have hst : ∀ nn, ((wr.drewN nn).setCell ⟨g, i + k, none⟩ (.int .i64 ((mulB P x Y i (k + 1) / 256 ^ (i + k) % 256 : Nat) : Int))).ownsRow w3.heap.size 3 1 (.slice (some ⟨g, 0, none⟩) (n + m + 1) (n + m + 1)) (n + m + 1) (vals .i64 (mixB (mulB P x Y i (k + 1)) P (i + (k + 1)) (n + m + 1))) := fun nn => by
            have := ((own_drewN HO2.out nn).stored (i + k) (.int .i64 ((mulB P x Y i (k + 1) / 256 ^ (i + k) % 256 : Nat) : Int))).1
            rw [vals_set, mulS_succB, mixD_setB _ _ _ _ _ (by omega)] at this
            rw [mulS_succB]
            exact this
          rw [← HST.out.1] at hst
          have HSO := Lib.hid hst
          have hol : P / 256 ^ (i + k) % 256 < 256 := Nat.mod_lt _ (by decide)
          clear hst hkN
          obtain ⟨cy, hcy⟩ : ∃ cy, mcarB (mulB P x Y i k) P (i + k) = cy := ⟨_, rfl⟩
          rw [hcy] at hclt HST HSO ⊢
          generalize Y / 256 ^ k % 256 = y at *
          generalize P / 256 ^ (i + k) % 256 = o at *
          have hxy : x * y ≤ 255 * 255 := Nat.mul_le_mul (by omega) (by omega)
          obtain ⟨z, hzz⟩ : ∃ z, x * y = z := ⟨_, rfl⟩
          rw [hzz] at hxy HST HSO
          have hzI : (x : Int) * (y : Int) = (z : Int) := by rw [← hzz]; rfl
          obtain ⟨s, hs⟩ : ∃ s, cy + (z + o) = s := ⟨_, rfl⟩
          rw [hs] at HST HSO
          have hsI : (o : Int) + (z : Int) + (cy : Int) = (s : Int) := by omega
          have hs9 : s ≤ 65535 := by omega
          obtain ⟨y1, hy1⟩ : ∃ y1, s % 256 = y1 := ⟨_, rfl⟩
          obtain ⟨y2, hy2⟩ : ∃ y2, s / 256 = y2 := ⟨_, rfl⟩
          rw [hy1] at HSO
          rw [hy2] at HST
          have j1 : (s : Int) % 256 = (y1 : Int) := by omega
          have j2 : (s : Int) / 256 = (y2 : Int) := by omega
          have j3 : (s : Int).tmod 256 = (y1 : Int) := by rw [Int.tmod_eq_emod_of_nonneg (by omega)]; exact j1
          have j4 : (s : Int).tdiv 256 = (y2 : Int) := by rw [Int.tdiv_eq_ediv_of_nonneg (by omega)]; exact j2
          have HCY : Hid (mcarB (mulB P x Y i (k + 1)) P (i + (k + 1)) = y2) := Lib.hid HST.out.2.symm
          have HLT : Hid (y2 < 256) := Lib.hid (by omega)
          have HSB : Hid (∀ nn u, Below w3.heap.size w3 ((wr.drewN nn).setCell ⟨g, i + k, none⟩ u)) := Lib.hid (fun nn u => (below_drewN' HB2.out nn).setCell (p := ⟨g, i + k, none⟩) (by rw [HG.out]; exact Nat.le_refl _) _)
          have q1 : (x : Int) ≤ 255 := by omega
          have q2 : (y : Int) ≤ 255 := by omega
          have q3 : (o : Int) ≤ 255 := by omega
          have q4 : (z : Int) ≤ 65025 := by omega
          have q5 : (cy : Int) ≤ 255 := by omega
          have q6 : (s : Int) ≤ 65535 := by omega
          have q7 : (y1 : Int) ≤ 255 := by omega
          have q8 : (y2 : Int) ≤ 255 := by omega
          have r0 : (i : Int) + (k : Int) < (n : Int) + (m : Int) + 1 := by omega
          have r1 : ((i : Int) + (k : Int)).toNat = i + k := by omega
          have r2 : (0 : Int) ≤ (i : Int) + (k : Int) := by omega
          have r3 : (0 : Int) ≤ (s : Int) := by omega
          have r4 : IntKind.i64.wrap ((i : Int) + (k : Int)) = (i : Int) + (k : Int) := IntWalk.i64_in _ (by omega)
          clear hcy hzz HST hy hol hx hxy hs hy1 hy2 hs9 hclt
          go_wp2_with fail
          go_quiet (fail)
          go_wp2_with fail
          go_roundw
          case rel => exact ⟨k + 1, by omega, by go_num, by rw [HCY.out], by rw [HCY.out]; exact HLT.out, HSO.out nq, HSB.out nq _⟩
          case measure => simp [RowKit.intOf]; omega
        · obtain rfl : k = m := by omega
          have hS : mulB P x Y i k = X % 256 ^ (i + 1) * Y := by
            unfold mulB
            rw [Nat.mod_eq_of_lt BY.out, HROW.out]
          rw [hS] at hclt HO2 ⊢
          have hP0 : P / 256 ^ (i + k) = 0 := Nat.div_eq_of_lt HPL.out
          have hcy : mcarB (X % 256 ^ (i + 1) * Y) P (i + k) = X % 256 ^ (i + 1) * Y / 256 ^ (i + k) := by unfold mcarB; rw [hP0, Nat.sub_zero]
          rw [hcy] at hclt ⊢
          have HCY0 : Hid (X % 256 ^ (i + 1) * Y / 256 ^ (i + k) = 0 → mixB (X % 256 ^ (i + 1) * Y) P (i + k) (n + k + 1) = digs 256 (X % 256 ^ (i + 1) * Y) (n + k + 1)) := Lib.hid (fun h => by
            refine mixD_endB _ _ _ _ (by omega) ?_ HPL.out
            rcases Nat.lt_or_ge (X % 256 ^ (i + 1) * Y) (256 ^ (i + k)) with g | g
            · exact g
            · have := Nat.div_pos g (Nat.pow_pos (n := i + k) (show 0 < 256 by decide)); omega)
          have HCY1 : Hid (mixB (X % 256 ^ (i + 1) * Y) P (i + k + 1) (n + k + 1) = digs 256 (X % 256 ^ (i + 1) * Y) (n + k + 1)) := Lib.hid (mixD_endB _ _ _ _ (by omega) (by have := HPL2.out; rw [show i + k + 1 = i + 1 + k by omega]; exact this) (Nat.lt_of_lt_of_le HPL.out (Nat.pow_le_pow_right (by decide) (by omega))))
          have HSET : Hid ((mixB (X % 256 ^ (i + 1) * Y) P (i + k) (n + k + 1)).set (i + k) (X % 256 ^ (i + 1) * Y / 256 ^ (i + k) % 256) = mixB (X % 256 ^ (i + 1) * Y) P (i + k + 1) (n + k + 1)) := Lib.hid (mixD_set0B _ _ _ _ (by omega))
          have HGET : Hid ((mixB (X % 256 ^ (i + 1) * Y) P (i + k) (n + k + 1)).getD (i + k) 0 = 0) := Lib.hid (by rw [mixD_getB _ _ _ _ (by omega), hP0])
          have HLEN : Hid ((mixB (X % 256 ^ (i + 1) * Y) P (i + k) (n + k + 1)).length = n + k + 1) := Lib.hid (mixD_lenB _ _ _ _ (by omega))
          clear hS hcy hP0 HPL HPL2 HROW HX
          generalize hcc : X % 256 ^ (i + 1) * Y / 256 ^ (i + k) = cy at *
          rw [Nat.mod_eq_of_lt hclt] at HSET
          generalize hSS : X % 256 ^ (i + 1) * Y = S at *
          have HSS := Lib.hid hSS
          clear hcc hSS
          obtain ⟨wp, hwp⟩ : ∃ wp : World, wp = wr := ⟨_, rfl⟩
          subst hwp
          have hcy0 : (0 : Int) ≤ (cy : Int) := by omega
          have hcy9 : (cy : Int) ≤ 255 := by omega
          go_wp2_with fail
          go_loopw [9, 12] (fun v9 v12 wr => RMC w3 g cy S P i n k v9 v12 wr) (fun v9 _ _ => (RowKit.intOf v9).toNat)
          case atStart => exact ⟨0, .inl ⟨rfl, rfl⟩, rfl, HO2.out, HB2.out⟩
          case round =>
            obtain ⟨r, hr, rfl, hown, hbel⟩ := hrel
            have HO3 := Lib.hid hown
            have HB3 := Lib.hid hbel
            clear hown hbel
            rcases hr with ⟨rfl, rfl⟩ | ⟨rfl, rfl⟩
            · by_cases hc0 : cy = 0
              · have HF := Lib.hid (HCY0.out hc0)
                subst hc0
                go_wp2_with fail
                go_roundw
                case rel => exact ⟨i + 1, by omega, by go_num, by rw [HSS.out, ← HF.out]; exact HO3.out, HB3.out⟩
                case measure => simp [RowKit.intOf]; omega
              · have hcell0 := HO3.out.cellAt (i + k) (by omega)
                rw [Nat.add_zero, vals_get _ _ _ (by rw [HLEN.out]; omega), HGET.out] at hcell0
                have hfz := HO3.out.frozenAt (i + k)
                have hst := (HO3.out.stored (i + k) (.int .i64 ((cy : Nat) : Int))).1
                simp only [Nat.add_zero] at hst
                rw [vals_set, HSET.out] at hst
                have HST := Lib.hid hst
                have HSB : Hid (∀ u, Below w3.heap.size w3 (wr.setCell ⟨g, i + k, none⟩ u)) := Lib.hid (fun u => HB3.out.setCell (p := ⟨g, i + k, none⟩) (by rw [HG.out]; exact Nat.le_refl _) _)
                have hcp : (0 : Int) < (cy : Int) := by omega
                have j1 : (cy : Int) % 256 = (cy : Int) := by omega
                have j2 : (cy : Int) / 256 = 0 := by omega
                have j3 : (cy : Int).tmod 256 = (cy : Int) := by rw [Int.tmod_eq_emod_of_nonneg (by omega)]; exact j1
                have j4 : (cy : Int).tdiv 256 = 0 := by rw [Int.tdiv_eq_ediv_of_nonneg (by omega)]; exact j2
                have r0 : (i : Int) + (k : Int) < (n : Int) + (k : Int) + 1 := by omega
                have r1 : ((i : Int) + (k : Int)).toNat = i + k := by omega
                have r2 : (0 : Int) ≤ (i : Int) + (k : Int) := by omega
                have hz' : (((0 : Nat) : Int)) = 0 := rfl
                rw [hz'] at hcell0
                have hik : ((i + k + 0 : Nat) : Int) = (i : Int) + (k : Int) := by omega
                rw [hik]
                clear hst hclt hc0
                go_wp2_with fail
                go_roundw
                case rel => exact ⟨1, .inr ⟨rfl, rfl⟩, by congr 1, HST.out, HSB.out _⟩
                case measure => simp [RowKit.intOf]; omega
            · go_wp2_with fail
              go_roundw
              case rel => exact ⟨i + 1, by omega, by go_num, by rw [HSS.out, ← HCY1.out]; exact HO3.out, HB3.out⟩
              case measure => simp [RowKit.intOf]; omega
    · obtain rfl : i = n := by omega
      have hown := HO.out
      rw [Nat.mod_eq_of_lt BX.out] at hown
      have hXY : X * Y < 256 ^ (i + m + 1) := by
        have := mul_row_ltB X Y i m BY.out
        rw [Nat.mod_eq_of_lt BX.out] at this
        exact Nat.lt_of_lt_of_le this (Nat.pow_le_pow_right (by decide) (by omega))
      obtain ⟨A', c', he, hnc, hcm', hcl, hrd⟩ := own_rd hown
      injection he with he1 he2 he3
      subst he1 he3
      unfold maxLen at hcm'
      have HLI := Lib.hid (limbs_any _ (i + m + 1) (i + m + 1) _ wr (digs_len _ _ _) hrd (digs_lt 256 _ _ (by decide)) (Nat.le_refl _) (by omega) (by omega))
      rw [digs_all 256 _ _ hXY] at HLI
      clear hown hrd hXY hcl
      go_wp2_with fail
      refine HLI.out.mono ?_
      rintro e w5 ⟨A5, c5, rfl, k1, k2, k3, k4⟩
      have K1 := Lib.hid k1
      have HBX := Lib.hid (B3.out.trans ((HB.out.trans (k4.mono HB.out.size)).mono B3.out.size))
      clear k1 k4 HLI
      go_wp2_with fail
      go_ret
      exact ⟨A5, c5, rfl, K1.out, k2, k3, HBX.out⟩
end Go.Proofs.YtgckfilmhnapeaaDoor
