/- The reference's nearest pattern: crucibleref04.Cmp2, crucibleref07.nearest. -/
import Derived.Test.YtgckfilmhnapeaaDoorRm
import Derived.Test.YtgckfilmhnapeaaDoorRp
namespace Go.Proofs.YtgckfilmhnapeaaDoor
open Go.RowKit Go.Lib
set_option linter.unusedVariables false

theorem cmpZ_scale (a b k : Nat) (hk : 0 < k) : cmpZ (a * k) (b * k) = cmpZ a b := by
  unfold cmpZ
  by_cases h1 : a < b
  · rw [if_pos h1, if_pos (Nat.mul_lt_mul_of_pos_right h1 hk)]
  · have h1' := Nat.mul_le_mul_right k (Nat.le_of_not_lt h1)
    rw [if_neg h1, if_neg (by omega)]
    by_cases h2 : b < a
    · rw [if_pos h2, if_pos (Nat.mul_lt_mul_of_pos_right h2 hk)]
    · have h2' := Nat.mul_le_mul_right k (Nat.le_of_not_lt h2)
      rw [if_neg h2, if_neg (by omega)]
/-- powers of 2 on both sides -/
theorem cmpZ_two (a b p q : Nat) (e : Int) (he : e = (p : Int) - q) : cmpZ (a * 2 ^ e.toNat) (b * 2 ^ (-e).toNat) = cmpZ (a * 2 ^ p) (b * 2 ^ q) := by
  obtain ⟨m, hm1, hm2⟩ : ∃ m : Nat, p = e.toNat + m ∧ q = (-e).toNat + m := ⟨min p q, by omega, by omega⟩
  rw [hm1, hm2, Nat.pow_add, Nat.pow_add, ← Nat.mul_assoc, ← Nat.mul_assoc, cmpZ_scale _ _ _ (Nat.two_pow_pos m)]
theorem ll_up (M D k n : Nat) (h : ll M ≤ k) (hn : 32 * k + D ≤ 32 * n) : ll (M * 2 ^ D) ≤ n := by
  refine ll_of_blen _ _ ((blen_iff _ _).2 ?_)
  have h1 : M < 2 ^ (32 * k) := (blen_iff _ _).1 (blen_of_ll M k h)
  refine Nat.lt_of_lt_of_le (Nat.mul_lt_mul_of_pos_right h1 (Nat.two_pow_pos D)) ?_
  rw [← Nat.pow_add]
  exact Nat.pow_le_pow_right (by decide) hn

set_option maxRecDepth 100000 in
theorem cmp2_ref (A B : Option Addr) (M N c d : Nat) (e f D : Int) (w : World) (hA : CanAt w A M) (hB : CanAt w B N) (hm : ll M ≤ 60000) (hn : ll N ≤ 60000) (he1 : -100000 ≤ e) (he2 : e ≤ 100000) (hf1 : -100000 ≤ f) (hf2 : f ≤ 100000) (hD : D = e - f) :
    Calls Tryd.prog 84 #[.slice A (ll M) c, .int .i64 e, .slice B (ll N) d, .int .i64 f] w fun en w' => en = .returned (.int .i64 (cmpZ (M * 2 ^ D.toNat) (N * 2 ^ (-D).toNat))) ∧ Below w.heap.size w w' := by
  have HA := Lib.hid hA
  have HB := Lib.hid hB
  clear hA hB
  by_cases h1 : f < e
  · have e1 : (-D).toNat = 0 := by omega
    rw [e1, Nat.pow_zero, Nat.mul_one]
    obtain ⟨k, hk⟩ : ∃ k : Nat, D = k := ⟨D.toNat, by omega⟩
    have hk2 : k ≤ 200000 := by omega
    rw [hk, show ((k : Nat) : Int).toNat = k by omega]
    have hdif : e - f = (k : Int) := by omega
    have HS := Lib.hid (shl_ref A M k c w HA.out (by omega) (by omega))
    have hll : ll (M * 2 ^ k) ≤ 70000 := ll_up M k 60000 70000 hm (by omega)
    have HC := Lib.hid (fun wx A' c' (hb : Below w.heap.size w wx) hA' => cmp_ref A' B (M * 2 ^ k) N c' d wx hA' (HB.out.below hb) (by omega) (by omega))
    generalize M * 2 ^ k = X at *
    clear hm hn hD e1 hk hll HA
    go_enter Tryd.func84, Tryd.ntmps84
    go_wp2_with fail
    refine HS.out.mono ?_
    rintro en w1 ⟨A1, c1, rfl, k1, k2, k3, k4⟩
    have K1 := Lib.hid k1
    have HB1 := Lib.hid k4
    clear k1 k2 k3 k4 HS
    have h2 : ¬ e < f := by omega
    go_wp2_with fail
    refine (HC.out _ A1 c1 HB1.out K1.out).mono ?_
    rintro en w2 ⟨rfl, hb2⟩
    have HB2 := Lib.hid (HB1.out.trans (hb2.mono HB1.out.size))
    clear hb2 HC K1
    go_wp2_with fail
    go_ret
    exact ⟨rfl, HB2.out⟩
  · by_cases h2 : e < f
    · have e1 : D.toNat = 0 := by omega
      rw [e1, Nat.pow_zero, Nat.mul_one]
      obtain ⟨k, hk⟩ : ∃ k : Nat, -D = k := ⟨(-D).toNat, by omega⟩
      have hk2 : k ≤ 200000 := by omega
      rw [hk, show ((k : Nat) : Int).toNat = k by omega]
      have hdif : f - e = (k : Int) := by omega
      have HS := Lib.hid (shl_ref B N k d w HB.out (by omega) (by omega))
      have hll : ll (N * 2 ^ k) ≤ 70000 := ll_up N k 60000 70000 hn (by omega)
      have HC := Lib.hid (fun wx B' d' (hb : Below w.heap.size w wx) hB' => cmp_ref A B' M (N * 2 ^ k) c d' wx (HA.out.below hb) hB' (by omega) (by omega))
      generalize N * 2 ^ k = X at *
      clear hm hn hD e1 hk hll HB
      go_enter Tryd.func84, Tryd.ntmps84
      go_wp2_with fail
      refine HS.out.mono ?_
      rintro en w1 ⟨A1, c1, rfl, k1, k2, k3, k4⟩
      have K1 := Lib.hid k1
      have HB1 := Lib.hid k4
      clear k1 k2 k3 k4 HS
      go_wp2_with fail
      refine (HC.out _ A1 c1 HB1.out K1.out).mono ?_
      rintro en w2 ⟨rfl, hb2⟩
      have HB2 := Lib.hid (HB1.out.trans (hb2.mono HB1.out.size))
      clear hb2 HC K1
      go_wp2_with fail
      go_ret
      exact ⟨rfl, HB2.out⟩
    · have e1 : D.toNat = 0 := by omega
      have e2 : (-D).toNat = 0 := by omega
      rw [e1, e2, Nat.pow_zero, Nat.mul_one, Nat.mul_one]
      have HC := Lib.hid (cmp_ref A B M N c d w HA.out HB.out (by omega) (by omega))
      clear hm hn hD e1 e2 HA HB
      go_enter Tryd.func84, Tryd.ntmps84
      go_wp2_with fail
      refine HC.out.mono ?_
      rintro en w2 ⟨rfl, hb2⟩
      have HB2 := Lib.hid hb2
      clear hb2 HC
      go_wp2_with fail
      go_ret
      exact ⟨rfl, HB2.out⟩

/-- the middle above a size, by the parts of both neighbours -/
theorem mid_of {f s c k c' k' F : Nat} (hF : F = 2 ^ f) (h1 : pv f s = c * 2 ^ k) (h2 : pv f (s + 1) = c' * 2 ^ k') (hs : s = k * F + c) (ht : s + 1 = k' * F + c') (hc : c < 2 * F) (hc' : c' < 2 * F) (hk : c < F → k = 0) (hk' : c' < F → k' = 0) :
    k ≤ k' ∧ (k' = k → (c + c') * 2 ^ k = mid f s) ∧ (k < k' → (c + 2 * c') * 2 ^ k = mid f s) := by
  have hF0 : 0 < F := by rw [hF]; exact Nat.two_pow_pos f
  have hle : k ≤ k' := by
    rcases Nat.lt_or_ge k' k with g | g
    · exfalso
      have h : F ≤ c := by
        rcases Nat.lt_or_ge c F with q | q
        · have := hk q; omega
        · exact q
      have h3 : (k' + 1) * F ≤ k * F := Nat.mul_le_mul_right _ g
      rw [Nat.add_mul] at h3
      omega
    · exact g
  refine ⟨hle, fun e => ?_, fun g => ?_⟩
  · unfold mid
    rw [h1, h2, e, Nat.add_mul]
  · have h : F ≤ c' := by
      rcases Nat.lt_or_ge c' F with q | q
      · have := hk' q; omega
      · exact q
    have hkk : k' = k + 1 := by
      rcases Nat.lt_or_ge (k + 1) k' with q | q
      · exfalso
        have h3 : (k + 1 + 1) * F ≤ k' * F := Nat.mul_le_mul_right _ q
        rw [Nat.add_mul, Nat.add_mul] at h3
        omega
      · omega
    unfold mid
    rw [h1, h2, hkk, Nat.add_mul, Nat.pow_succ, Nat.mul_comm 2 c', Nat.mul_assoc c', Nat.mul_comm 2]
theorem near_here {f inf s A B : Nat} (hB : 0 < B) (hs : s < inf) (h1 : pv f s * B ≤ A) (h2 : 2 * A ≤ mid f s * B) (h3 : s % 2 = 1 → 2 * A < mid f s * B) : Near f inf s A B := by
  have lo : s ≠ 0 → mid f (s - 1) * B < 2 * A := fun h0 => by
    refine Nat.lt_of_lt_of_le ?_ (Nat.mul_le_mul_left 2 h1)
    rw [← Nat.mul_assoc]
    refine Nat.mul_lt_mul_of_pos_right ?_ hB
    unfold mid
    rw [show s - 1 + 1 = s by omega]
    have := pv_lt f (show s - 1 < s by omega)
    omega
  exact ⟨Nat.le_of_lt hs, fun h => Nat.le_of_lt (lo h), fun h _ => lo h, fun _ => h2, fun _ => h3⟩
theorem near_above {f inf s A B : Nat} (hB : 0 < B) (hs : s < inf) (h1 : A < pv f (s + 1) * B) (h2 : mid f s * B ≤ 2 * A) (h3 : (s + 1) % 2 = 1 → mid f s * B < 2 * A) : Near f inf (s + 1) A B := by
  have hi : s + 1 ≠ inf → 2 * A < mid f (s + 1) * B := fun h0 => by
    refine Nat.lt_of_lt_of_le (show 2 * A < 2 * (pv f (s + 1) * B) by omega) ?_
    rw [← Nat.mul_assoc]
    refine Nat.mul_le_mul_right _ ?_
    rw [mid_eq]
    omega
  exact ⟨by omega, fun _ => by rw [Nat.add_sub_cancel]; exact h2, fun _ h => by rw [Nat.add_sub_cancel]; exact h3 h, fun h => Nat.le_of_lt (hi h), fun h _ => hi h⟩
theorem cmpZ_le (a b : Nat) : cmpZ a b ≤ 0 ↔ a ≤ b := by
  unfold cmpZ
  by_cases h1 : a < b
  · rw [if_pos h1]; constructor <;> intro <;> omega
  · rw [if_neg h1]
    by_cases h2 : b < a
    · rw [if_pos h2]; constructor <;> intro <;> omega
    · rw [if_neg h2]; constructor <;> intro <;> omega
theorem cmpZ_cases (a b : Nat) : (a < b ∧ cmpZ a b = -1) ∨ (a = b ∧ cmpZ a b = 0) ∨ (b < a ∧ cmpZ a b = 1) := by
  unfold cmpZ
  by_cases h1 : a < b
  · rw [if_pos h1]; exact .inl ⟨h1, rfl⟩
  · rw [if_neg h1]
    by_cases h2 : b < a
    · rw [if_pos h2]; exact .inr (.inr ⟨h2, rfl⟩)
    · rw [if_neg h2]; exact .inr (.inl ⟨by omega, rfl⟩)
def NeRel (w : World) (f l I M N : Nat) (v7 v8 : Value) (wr : World) : Prop :=
  ∃ lo hi : Nat, v7 = .int .u64 lo ∧ v8 = .int .u64 hi ∧ lo < hi ∧ hi ≤ I + 1 ∧ pv f lo * N ≤ M * 2 ^ l ∧ (hi = I + 1 ∨ M * 2 ^ l < pv f hi * N) ∧ Below w.heap.size w wr
/-- Number, From, Mul, Cmp2: a size against the fraction -/
theorem num_cmp {f l sz c k M N : Nat} (h : pv f sz = c * 2 ^ k) (e : Int) (he : e = (k : Int) - l) : cmpZ (c * N * 2 ^ e.toNat) (M * 2 ^ (-e).toNat) = cmpZ (pv f sz * N) (M * 2 ^ l) := by
  rw [cmpZ_two _ _ k l e he, h, Nat.mul_right_comm]
theorem ll_small (c : Nat) (h : c < 18446744073709551616) : ll c ≤ 2 := ll_two c 2 (by
  have e : (2 : Nat) ^ (32 * 2) = 18446744073709551616 := by decide
  rw [e]
  exact h)
theorem ll_mul (a b j k : Nat) (h1 : ll a ≤ j) (h2 : ll b ≤ k) : ll (a * b) ≤ j + k := by
  refine ll_of_blen _ _ ((blen_iff _ _).2 ?_)
  have g1 : a < 2 ^ (32 * j) := (blen_iff _ _).1 (blen_of_ll a j h1)
  have g2 : b < 2 ^ (32 * k) := (blen_iff _ _).1 (blen_of_ll b k h2)
  rw [Nat.mul_add, Nat.pow_add]
  rcases Nat.eq_zero_or_pos b with h | h
  · subst h; rw [Nat.mul_zero]; exact Nat.mul_pos (Nat.two_pow_pos _) (Nat.two_pow_pos _)
  · exact Nat.lt_of_lt_of_le (Nat.mul_lt_mul_of_pos_right g1 h) (Nat.mul_le_mul_left _ (Nat.le_of_lt g2))

set_option maxRecDepth 100000 in
set_option maxHeartbeats 4000000 in
theorem nearest_ref {b : Int} {f l T S I : Nat} (h : Wid b f l T S I) (A B : Option Addr) (M N cm cq : Nat) (w : World) (hA : CanAt w A M) (hB : CanAt w B N) (hN : 0 < N) (hm : ll M ≤ 20000) (hn : ll N ≤ 20000) :
    Calls Tryd.prog 48 #[.int .i64 b, .slice A (ll M) cm, .slice B (ll N) cq] w fun e w' => ∃ s : Nat, e = .returned (.int .u64 s) ∧ Below w.heap.size w w' ∧ Near f I s (M * 2 ^ l) N := by
  obtain ⟨h1, h2, h3, h4, h5, h6, h7, h8, -, -, -, hI0⟩ := h.facts
  have HI := Lib.hid (fun wx => winf_ref h wx)
  have HNM := Lib.hid (fun sz hs wx => number_ref h sz hs wx)
  have HMU := Lib.hid (fun A' c' X wx hA' hB' hX => mul_ref A' B X N c' cq wx hA' hB' hX (by omega))
  have HA := Lib.hid hA
  have HB := Lib.hid hB
  have HNP := Lib.hid hN
  have HFC := Lib.hid (show 2 ^ (f + 1) = 2 * 2 ^ f ∧ 2 ^ f ≤ 4503599627370496 ∧ T ≤ 2047 ∧ T * 2 ^ f = I ∧ I < 9223372036854775808 ∧ 0 < 2 ^ f from ⟨by rw [Nat.pow_succ]; omega, h5, h3, h6, by omega, Nat.two_pow_pos f⟩)
  have HLL := Lib.hid (show ll M ≤ 20000 ∧ ll N ≤ 20000 from ⟨hm, hn⟩)
  have HK : Hid (∀ sz k c, sz ≤ I → sz = k * 2 ^ f + c → k ≤ 2047) := Lib.hid (fun sz k c hs e => by
    obtain ⟨-, -, g3, g4, -, g6⟩ := HFC.out
    rcases Nat.lt_or_ge 2047 k with g | g
    · exfalso
      have e1 : 2048 * 2 ^ f ≤ k * 2 ^ f := Nat.mul_le_mul_right _ g
      have e2 : T * 2 ^ f ≤ 2047 * 2 ^ f := Nat.mul_le_mul_right _ g3
      omega
    · exact g)
  have hIw : IntKind.u64.wrap ((I : Int) + 1) = (I : Int) + 1 := by
    rw [show (I : Int) + 1 = ((I + 1 : Nat) : Int) by omega, u64_wrap]
    omega
  clear h hA hB hN h1 h3 h4 h5 h6 h7 h8 hm hn
  go_enter Tryd.func48, Tryd.ntmps48
  go_wp2_with fail
  refine (HI.out _).mono ?_
  rintro e w1 ⟨rfl, hb1⟩
  have HB1 := Lib.hid hb1
  clear hb1
  go_wp2_with fail
  go_loopw [7, 8] (fun v7 v8 wr => NeRel w f l I M N v7 v8 wr) (fun v7 v8 _ => (RowKit.intOf v8 - RowKit.intOf v7).toNat)
  case atStart => exact ⟨0, I + 1, rfl, rfl, by omega, Nat.le_refl _, by rw [pv_zero, Nat.zero_mul]; exact Nat.zero_le _, .inl rfl, HB1.out⟩
  case round =>
    obtain ⟨lo, hi, rfl, rfl, hlh, hhi, hlo, hup, hbel⟩ := hrel
    have HLO := Lib.hid hlo
    have HUP := Lib.hid hup
    have HB2 := Lib.hid hbel
    have HHI := Lib.hid hhi
    clear hlo hup hbel
    have hI9 := HFC.out.2.2.2.2.1
    have j1 : IntKind.u64.wrap ((hi : Int) - lo) = (hi : Int) - lo := by
      rw [show (hi : Int) - lo = ((hi - lo : Nat) : Int) by omega, u64_wrap]; omega
    by_cases hgo : lo + 1 < hi
    · have hgoI : (1 : Int) < (hi : Int) - lo := by omega
      obtain ⟨md, hmd⟩ : ∃ md, lo + (hi - lo) / 2 = md := ⟨_, rfl⟩
      have j2 : ((hi : Int) - lo) / 2 = ((md - lo : Nat) : Int) := by omega
      have j3 : ((hi : Int) - lo).tdiv 2 = ((md - lo : Nat) : Int) := by rw [Int.tdiv_eq_ediv_of_nonneg (by omega)]; exact j2
      have j4 : IntKind.u64.wrap ((md - lo : Nat) : Int) = ((md - lo : Nat) : Int) := by rw [u64_wrap]; omega
      have j5 : (lo : Int) + ((md - lo : Nat) : Int) = (md : Int) := by omega
      have j6 : IntKind.u64.wrap (md : Int) = (md : Int) := by rw [u64_wrap]; omega
      have hm1 : lo < md := by omega
      have hm2 : md < hi := by omega
      have hmI : md ≤ I := by omega
      have HNB := Lib.hid (HNM.out md hmI)
      have HMD := Lib.hid (show lo < md ∧ md < hi ∧ md ≤ I from ⟨hm1, hm2, hmI⟩)
      generalize md - lo = df at *
      have hLH := Lib.hid hlh
      clear hI9 hhi hmd hgo hm1 hm2 hmI hlh
      go_wp2_with fail
      refine (HNB.out _).mono ?_
      rintro e w3 ⟨c, k, rfl, hb3, hpv, hc, hck, hkc⟩
      have HB3 := Lib.hid (HB2.out.trans (hb3.mono HB2.out.size))
      have hk := HK.out md k c HMD.out.2.2 hkc
      have HPV := Lib.hid hpv
      have hc64 : c < 18446744073709551616 := by have := HFC.out; omega
      have HFR := Lib.hid (fun wx => from_any c hc64 wx)
      have HLC := Lib.hid (ll_small c hc64)
      have e1 : -2000 ≤ (k : Int) - l := by omega
      have e2 : (k : Int) - l ≤ 3000 := by omega
      obtain ⟨E, hE⟩ : ∃ E : Int, (k : Int) - l = E := ⟨_, rfl⟩
      have HEE := Lib.hid hE
      rw [hE] at e1 e2 ⊢
      clear hb3 hpv hc hck hkc hk hc64 hE HNB
      go_wp2_with fail
      refine (HFR.out _).mono ?_
      rintro e w4 ⟨A4, c4, rfl, k1, k2, k3, k4⟩
      have C4 := Lib.hid k1
      have HB4 := Lib.hid (HB3.out.trans (k4.mono HB3.out.size))
      clear k1 k2 k3 k4 HFR
      go_wp2_with fail
      refine (HMU.out A4 c4 c _ C4.out (HB.out.below HB4.out) (by have := HLC.out; omega)).mono ?_
      rintro e w5 ⟨A5, c5, rfl, k1, k2, k3, k4⟩
      have C5 := Lib.hid k1
      have HB5 := Lib.hid (HB4.out.trans (k4.mono HB4.out.size))
      have HC2 := Lib.hid (cmp2_ref A5 A (c * N) M c5 cm E 0 E w5 k1 (HA.out.below HB5.out) (by have := ll_mul c N 2 20000 HLC.out HLL.out.2; omega) (by have := HLL.out; omega) (by omega) (by omega) (by decide) (by decide) (by omega))
      rw [num_cmp HPV.out E HEE.out.symm] at HC2
      clear k1 k2 k3 k4 C4
      go_wp2_with fail
      refine HC2.out.mono ?_
      rintro e w6 ⟨rfl, hb6⟩
      have HB6 := Lib.hid (HB5.out.trans (hb6.mono HB5.out.size))
      clear hb6 HC2
      by_cases hle : pv f md * N ≤ M * 2 ^ l
      · have hz : cmpZ (pv f md * N) (M * 2 ^ l) ≤ 0 := (cmpZ_le _ _).2 hle
        have HLE := Lib.hid hle
        clear hle
        generalize cmpZ (pv f md * N) (M * 2 ^ l) = z at *
        go_wp2_with fail
        go_roundw
        case rel => exact ⟨md, hi, rfl, rfl, HMD.out.2.1, HHI.out, HLE.out, HUP.out, HB6.out⟩
        case measure => have := HMD.out; simp [RowKit.intOf]; omega
      · have hz : ¬ cmpZ (pv f md * N) (M * 2 ^ l) ≤ 0 := fun e => hle ((cmpZ_le _ _).1 e)
        have HLE := Lib.hid hle
        clear hle
        generalize cmpZ (pv f md * N) (M * 2 ^ l) = z at *
        go_wp2_with fail
        go_roundw
        case rel => exact ⟨lo, md, rfl, rfl, HMD.out.1, by have := HMD.out; omega, HLO.out, .inr (Nat.lt_of_not_le HLE.out), HB6.out⟩
        case measure => have := HMD.out; simp [RowKit.intOf]; omega
    · obtain rfl : hi = lo + 1 := by omega
      have hgoI : ¬ (1 : Int) < ((lo + 1 : Nat) : Int) - lo := by omega
      have hloI : lo ≤ I := by omega
      clear hI9 hhi hlh hgo
      go_wp2_with fail
      refine (HI.out _).mono ?_
      rintro e w3 ⟨rfl, hb3⟩
      have HB3 := Lib.hid (HB2.out.trans (hb3.mono HB2.out.size))
      clear hb3
      by_cases heq : lo = I
      · subst heq
        go_wp2_with fail
        go_ret
        exact ⟨lo, rfl, HB3.out, near_inf f lo _ N HNP.out HLO.out⟩
      · have heqI : ((lo : Int) == (I : Int)) = false := by rw [beq_eq_false_iff_ne]; omega
        have hlt : lo < I := by omega
        have HLT := Lib.hid hlt
        have HUP2 : Hid (M * 2 ^ l < pv f (lo + 1) * N) := Lib.hid (by
          rcases HUP.out with g | g
          · omega
          · exact g)
        have hI9 := HFC.out.2.2.2.2.1
        have j6 : IntKind.u64.wrap ((lo : Int) + 1) = ((lo + 1 : Nat) : Int) := by
          rw [show (lo : Int) + 1 = ((lo + 1 : Nat) : Int) by omega, u64_wrap]; omega
        have HN0 := Lib.hid (HNM.out lo hloI)
        have HN1 := Lib.hid (HNM.out (lo + 1) (by omega))
        have HKL := Lib.hid (fun k c => HK.out lo k c hloI)
        have HKH := Lib.hid (fun k c => HK.out (lo + 1) k c (by omega))
        clear heq hlt hI9 hloI HUP j1
        go_wp2_with fail
        refine (HN0.out _).mono ?_
        rintro e w4 ⟨c, k, rfl, hb4, hpv, hc, hck, hkc⟩
        have HB4 := Lib.hid (HB3.out.trans (hb4.mono HB3.out.size))
        have P0 := Lib.hid (show pv f lo = c * 2 ^ k ∧ c < 2 ^ (f + 1) ∧ (c < 2 ^ f → k = 0) ∧ lo = k * 2 ^ f + c from ⟨hpv, hc, hck, hkc⟩)
        clear hb4 hpv hc hck hkc
        go_wp2_with fail
        refine (HN1.out _).mono ?_
        rintro e w5 ⟨c', k', rfl, hb5, hpv, hc, hck, hkc⟩
        have HB5 := Lib.hid (HB4.out.trans (hb5.mono HB4.out.size))
        obtain ⟨p1, p2, p3, p4⟩ := P0.out
        have hfc := HFC.out
        obtain ⟨m1, m2, m3⟩ := mid_of (F := 2 ^ f) rfl p1 hpv p4 hkc (by omega) (by omega) p3 hck
        have hkb := HKL.out k c p4
        have hkb' := HKH.out k' c' hkc
        have hcb : c < 9007199254740994 := by omega
        have hcb' : c' < 9007199254740994 := by omega
        clear hb5 hpv hc hck hkc p1 p2 p3 p4 hfc HN0 HN1 P0 HKL HKH HI HNM
        obtain ⟨mm, hmm⟩ : ∃ mm : Nat, mm * 2 ^ k = mid f lo ∧ mm < 36028797018963976 ∧ (k' = k → mm = c + c') ∧ (k < k' → mm = c + 2 * c') := by
          by_cases g : k' = k
          · exact ⟨c + c', m2 g, by omega, fun _ => rfl, fun q => by omega⟩
          · exact ⟨c + 2 * c', m3 (by omega), by omega, fun q => absurd q g, fun _ => rfl⟩
        obtain ⟨q1, q2, q3, q4⟩ := hmm
        have HMM := Lib.hid q1
        have HFR := Lib.hid (fun wx => from_any mm (by omega) wx)
        have HLC := Lib.hid (ll_small mm (by omega))
        have HC2 := Lib.hid (fun A5 c5 wx (hb : Below w.heap.size w wx) hA5 => cmp2_ref A A5 M (mm * N) cm c5 0 ((k : Int) - l - 1) (0 - ((k : Int) - l - 1)) wx (HA.out.below hb) hA5 (by have := HLL.out; omega) (by have := ll_mul mm N 2 20000 HLC.out HLL.out.2; omega) (by decide) (by decide) (by omega) (by omega) rfl)
        have hz2 : cmpZ (M * 2 ^ (0 - ((k : Int) - l - 1)).toNat) (mm * N * 2 ^ (-(0 - ((k : Int) - l - 1))).toNat) = cmpZ (2 * (M * 2 ^ l)) (mid f lo * N) := by
          rw [cmpZ_two _ _ (l + 1) k _ (by omega), Nat.mul_right_comm mm, q1, Nat.pow_succ, ← Nat.mul_assoc, Nat.mul_comm _ 2]
        rw [hz2] at HC2
        have s1 : IntKind.i64.wrap ((k : Int) - l - 1) = (k : Int) - l - 1 := IntWalk.i64_in _ (by omega)
        have s2 : IntKind.u64.wrap ((c : Int) + c') = ((c + c' : Nat) : Int) := by rw [show (c : Int) + c' = ((c + c' : Nat) : Int) by omega, u64_wrap]; omega
        have s3 : IntKind.u64.wrap (2 * (c' : Int)) = 2 * (c' : Int) := by rw [show 2 * (c' : Int) = ((2 * c' : Nat) : Int) by omega, u64_wrap]; omega
        have s4 : IntKind.u64.wrap ((c : Int) + 2 * (c' : Int)) = ((c + 2 * c' : Nat) : Int) := by rw [show (c : Int) + 2 * (c' : Int) = ((c + 2 * c' : Nat) : Int) by omega, u64_wrap]; omega
        have S2P : Hid (IntKind.u64.wrap ((c : Int) + c') = (c : Int) + c') := Lib.hid (by rw [show (c : Int) + c' = ((c + c' : Nat) : Int) by omega, u64_wrap]; omega)
        have HZC := Lib.hid (cmpZ_cases (2 * (M * 2 ^ l)) (mid f lo * N))
        have hodd := Nat.mod_two_eq_zero_or_one lo
        have HOD := Lib.hid hodd
        generalize hzz : cmpZ (2 * (M * 2 ^ l)) (mid f lo * N) = Z at *
        clear hz2 hzz m2 m3 hcb hcb' q1 q2 hodd
        have fin : Hid (∀ w8, Below w.heap.size w w8 → (0 < Z ∨ (Z = 0 ∧ lo % 2 = 1)) → Near f I (lo + 1) (M * 2 ^ l) N) := Lib.hid (fun w8 _ hzq => by
          have hc := HZC.out
          refine near_above HNP.out HLT.out HUP2.out (by omega) (fun ho => by omega))
        have fin2 : Hid (¬ (0 < Z ∨ (Z = 0 ∧ lo % 2 = 1)) → Near f I lo (M * 2 ^ l) N) := Lib.hid (fun hzq => by
          have hc := HZC.out
          refine near_here HNP.out HLT.out HLO.out (by omega) (fun ho => by omega))
        have t1 : (lo : Int) % 2 = ((lo % 2 : Nat) : Int) := rfl
        have t2 : (lo : Int).tmod 2 = ((lo % 2 : Nat) : Int) := by rw [Int.tmod_eq_emod_of_nonneg (by omega)]; rfl
        have hkk : k' = k ∨ k < k' := by omega
        have HS := Lib.hid (show (k : Int) ≤ 2047 ∧ (k' : Int) ≤ 2047 from ⟨by omega, by omega⟩)
        rcases hkk with hkk | hkk
        · have g1 : ¬ ((k : Int) - l < (k' : Int) - l) := by omega
          have hmm := q3 hkk
          rw [← hmm] at s2
          have w1' : -1100 ≤ (k : Int) - l := by omega
          have w2' : (k : Int) - l ≤ 2100 := by omega
          clear s3 s4 q3 q4 hmm hkk hkb hkb' m1
          go_wp2_with fail
          refine (HFR.out _).mono ?_
          rintro e w6 ⟨A6, c6, rfl, k1, k2, k3, k4⟩
          have C6 := Lib.hid k1
          have HB6 := Lib.hid (HB5.out.trans (k4.mono HB5.out.size))
          clear k1 k2 k3 k4 HFR
          go_wp2_with fail
          refine (HMU.out A6 c6 mm _ C6.out (HB.out.below HB6.out) (by have := HLC.out; omega)).mono ?_
          rintro e w7 ⟨A7, c7, rfl, k1, k2, k3, k4⟩
          have C7 := Lib.hid k1
          have HB7 := Lib.hid (HB6.out.trans (k4.mono HB6.out.size))
          clear k1 k2 k3 k4 C6
          go_wp2_with fail
          refine (HC2.out A7 c7 _ HB7.out C7.out).mono ?_
          rintro e w8 ⟨rfl, hb8⟩
          have HB8 := Lib.hid (HB7.out.trans (hb8.mono HB7.out.size))
          clear hb8 HC2
          by_cases z1 : 0 < Z
          · go_wp2_with fail
            go_ret
            exact ⟨lo + 1, rfl, HB8.out, fin.out _ HB8.out (.inl z1)⟩
          · by_cases z2 : Z = 0
            · subst z2
              rcases HOD.out with ho | ho
              · rw [ho] at t1 t2
                go_wp2_with fail
                go_ret
                exact ⟨lo, rfl, HB8.out, fin2.out (by omega)⟩
              · rw [ho] at t1 t2
                go_wp2_with fail
                go_ret
                exact ⟨lo + 1, rfl, HB8.out, fin.out _ HB8.out (.inr ⟨by first | rfl | trivial, ho⟩)⟩
            · have z3 : (Z == 0) = false := by rw [beq_eq_false_iff_ne]; exact z2
              go_wp2_with fail
              go_ret
              exact ⟨lo, rfl, HB8.out, fin2.out (by omega)⟩
        · have g1 : (k : Int) - l < (k' : Int) - l := by omega
          have hmm := q4 hkk
          rw [← hmm] at s4
          clear s2
          have s2 := S2P.out
          have S4 := Lib.hid s4
          have w1' : -1100 ≤ (k : Int) - l := by omega
          have w2' : (k : Int) - l ≤ 2100 := by omega
          clear q3 q4 hmm hkk hkb hkb' m1
          go_wp2_with fail
          refine (HFR.out _).mono ?_
          rintro e w6 ⟨A6, c6, rfl, k1, k2, k3, k4⟩
          have C6 := Lib.hid k1
          have HB6 := Lib.hid (HB5.out.trans (k4.mono HB5.out.size))
          clear k1 k2 k3 k4 HFR
          go_wp2_with fail
          refine (HMU.out A6 c6 mm _ C6.out (HB.out.below HB6.out) (by have := HLC.out; omega)).mono ?_
          rintro e w7 ⟨A7, c7, rfl, k1, k2, k3, k4⟩
          have C7 := Lib.hid k1
          have HB7 := Lib.hid (HB6.out.trans (k4.mono HB6.out.size))
          clear k1 k2 k3 k4 C6
          go_wp2_with fail
          refine (HC2.out A7 c7 _ HB7.out C7.out).mono ?_
          rintro e w8 ⟨rfl, hb8⟩
          have HB8 := Lib.hid (HB7.out.trans (hb8.mono HB7.out.size))
          clear hb8 HC2
          by_cases z1 : 0 < Z
          · go_wp2_with fail
            go_ret
            exact ⟨lo + 1, rfl, HB8.out, fin.out _ HB8.out (.inl z1)⟩
          · by_cases z2 : Z = 0
            · subst z2
              rcases HOD.out with ho | ho
              · rw [ho] at t1 t2
                go_wp2_with fail
                go_ret
                exact ⟨lo, rfl, HB8.out, fin2.out (by omega)⟩
              · rw [ho] at t1 t2
                go_wp2_with fail
                go_ret
                exact ⟨lo + 1, rfl, HB8.out, fin.out _ HB8.out (.inr ⟨by first | rfl | trivial, ho⟩)⟩
            · have z3 : (Z == 0) = false := by rw [beq_eq_false_iff_ne]; exact z2
              go_wp2_with fail
              go_ret
              exact ⟨lo, rfl, HB8.out, fin2.out (by omega)⟩
end Go.Proofs.YtgckfilmhnapeaaDoor
