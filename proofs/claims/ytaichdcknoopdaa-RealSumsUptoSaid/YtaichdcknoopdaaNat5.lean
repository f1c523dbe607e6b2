/- Contracts of crucibleref01, fifth part: Shr. -/
import Derived.Test.YtaichdcknoopdaaNat4
import Derived.Deep.RegionHeld3
import Derived.Deep.AppendLies
namespace Go.Proofs.Ytaichdcknoopdaa
open Go.RowKit

theorem shr_dig (N q r k : Nat) (hr : r < 8) : (N / 256 ^ (q + k) % 256 + 256 * (N / 256 ^ (q + k + 1) % 256)) / 2 ^ r % 256 = N / 2 ^ (8 * q + r) / 256 ^ k % 256 := by
  rw [shr_digit N (q + k) r hr, Nat.div_div_eq_div_mul, Nat.div_div_eq_div_mul]
  congr 2
  rw [Nat.pow_add, Nat.pow_add, Nat.pow_mul, show 2 ^ 8 = 256 from rfl, Nat.mul_assoc, Nat.mul_assoc, Nat.mul_comm (256 ^ k)]

theorem shr_lt (N q r L : Nat) (hL : N < 256 ^ L) (hq : q ≤ L) : N / 2 ^ (8 * q + r) < 256 ^ (L - q) := by
  rw [Nat.div_lt_iff_lt_mul (Nat.two_pow_pos _), Nat.pow_add, Nat.pow_mul, show 2 ^ 8 = 256 from rfl, ← Nat.mul_assoc, ← Nat.pow_add, Nat.sub_add_cancel hq]
  exact Nat.lt_of_lt_of_le hL (Nat.le_mul_of_pos_right _ (Nat.two_pow_pos _))

theorem shr_zero (N q r L : Nat) (hL : N < 256 ^ L) (hq : L ≤ q) : N / 2 ^ (8 * q + r) = 0 := by
  apply Nat.div_eq_of_lt
  refine Nat.lt_of_lt_of_le hL ?_
  rw [Nat.pow_add, Nat.pow_mul, show 2 ^ 8 = 256 from rfl]
  exact Nat.le_trans (Nat.pow_le_pow_right (by decide) hq) (Nat.le_mul_of_pos_right _ (Nat.two_pow_pos _))

/-- a number, any second answer and true are handed back -/
def NatPost3 (w : World) (N : Nat) (e : Ending) (w' : World) : Prop :=
  ∃ A c m, e = .returned (.tuple #[.slice A (ll N) c, .bool m, .bool true]) ∧ CanAt w' A N ∧ ll N ≤ c ∧ c ≤ 9223372036854775807 ∧ Below w.heap.size w w'

def ShrMore (w : World) (q : Nat) (m i : Value) (wr : World) : Prop :=
  ∃ (k : Nat) (mb : Bool), k ≤ q ∧ i = .int .i64 k ∧ m = .bool mb ∧ Below w.heap.size w wr
def ShrRel (w : World) (D q bound : Nat) (v i : Value) (wr : World) : Prop :=
  ∃ k : Nat, k ≤ bound ∧ i = .int .i64 ((q + k : Nat) : Int) ∧ wr.ownsRow w.heap.size 3 1 v k (vals .i64 (digs 256 D k)) ∧ Below w.heap.size w wr

set_option maxRecDepth 100000 in
set_option maxHeartbeats 4000000 in
theorem shr_core (A : Option Addr) (N q r c : Nat) (nn : Int) (w : World) (hA : CanAt w A N) (hm : ll N ≤ 262144) (hn : nn = 8 * (q : Int) + r) (hr : r < 8) (hq : q ≤ 1048576) :
    Calls Try.prog 75 #[.slice A (ll N) c, .int .i64 nn] w (NatPost3 w (N / 2 ^ (8 * q + r))) := by
  have HA := Lib.hid hA
  clear hA
  have l1 := b4 N
  obtain ⟨i0, hi, hz0, hz1, hz2⟩ := info_parts info_int
  have hq1 : nn.tdiv 8 = (q : Int) := by rw [Int.tdiv_eq_ediv_of_nonneg (by omega)]; omega
  have hr1 : nn.tmod 8 = (r : Int) := by rw [Int.tmod_eq_emod_of_nonneg (by omega)]; omega
  have hq2 : nn / 8 = (q : Int) := by omega
  have hr2 : nn % 8 = (r : Int) := by omega
  have h0 : 0 ≤ nn := by omega
  have wq : IntKind.i64.wrap (q : Int) = q := IntWalk.i64_in _ (by omega)
  have wrr : IntKind.i64.wrap (r : Int) = r := IntWalk.i64_in _ (by omega)
  have hnn : ¬ nn < 0 := by omega
  clear hn
  by_cases hL : (dig 256 N).length ≤ q
  · have HZ := Lib.hid (shr_zero N q r _ (lt_dig_len (by decide) N) hL)
    rw [HZ.out]
    have hge : ((dig 256 N).length : Int) ≤ q := by omega
    clear hL
    go_enter Try.func75, Try.ntmps75
    go_wp2_with fail
    refine (bytes_can A N c w HA.out (by omega)).mono ?_
    rintro e w1 ⟨A1, c1, rfl, -, -, -, h4⟩
    have H4 := Lib.hid h4
    clear h4
    go_wp2_with fail
    go_ret3
    exact ⟨none, 0, _, by rw [ll_zero] <;> rfl, zeros_can _, by rw [ll_zero]; exact Nat.le_refl _, by omega, H4.out⟩
  · have hL1 : q < (dig 256 N).length := by omega
    have hge : ¬ ((dig 256 N).length : Int) ≤ q := by omega
    have HV := Lib.hid (digs_all 256 _ _ (shr_lt N q r _ (lt_dig_len (b := 256) (by decide) N) (Nat.le_of_lt hL1)))
    have hp8 : 2 ^ r ≤ 128 := by
      have : 2 ^ r ≤ 2 ^ 7 := Nat.pow_le_pow_right (by decide) (by omega)
      exact this
    have hp0 : 0 < 2 ^ r := Nat.two_pow_pos _
    have HSD := Lib.hid (fun k => shr_dig N q r k hr)
    have PW : ∀ (wx : World) d, Calls Try.prog 72 #[.int .i64 (r : Int)] (wx.drewN d) fun e w' => e = .returned (.int .i64 ((2 ^ r : Nat) : Int)) ∧ wx.drewN d = w' := fun wx d => power_any r (by omega) (wx.drewN d)
    generalize hD : N / 2 ^ (8 * q + r) = D at *
    generalize hP : 2 ^ r = p at *
    have HPW := Lib.hid PW
    clear PW hD hP
    go_enter Try.func75, Try.ntmps75
    go_wp2_with fail
    refine (bytes_can A N c w HA.out (by omega)).mono ?_
    rintro e w1 ⟨A1, c1, rfl, h1, h2, h3, h4⟩
    have R1 := Lib.hid h1
    have B1 := Lib.hid h4
    clear h1 h4
    obtain ⟨b, off, rfl, hcell⟩ := R1.out.val hL1
    rw [dig_getD] at hcell
    have hx1 : N / 256 ^ q % 256 < 256 := Nat.mod_lt _ (by decide)
    generalize N / 256 ^ q % 256 = x at *
    have r3 : (q : Int) < (dig 256 N).length := by omega
    have r4 : 0 ≤ (q : Int) := by omega
    have r5 : ((p : Int) == 0) = false := by rw [beq_eq_false_iff_ne]; omega
    have r6 : (x : Int).tmod p = (x : Int) % p := by rw [Int.tmod_eq_emod_of_nonneg (by omega)]
    have r7 : IntKind.i64.wrap ((x : Int) % p) = (x : Int) % p := IntWalk.i64_in _ (by
      have := Int.emod_nonneg (x : Int) (b := (p : Int)) (by omega)
      have := Int.emod_lt_of_pos (x : Int) (b := (p : Int)) (by omega)
      omega)
    go_wp2_with fail
    go_quiet ((go_at_call 72; exact quiet_same (HPW.out _ _)))
    have B1' : ∀ d, Hid (Below w1.heap.size w1 (w1.drewN d)) := fun d => Lib.hid (below_drewN' (Below.refl _ _) d)
    go_wp2_with fail
    go_loopw [8, 9] (fun m i wr => ShrMore w1 q m i wr) (fun _ i _ => q - (intOf i).toNat)
    case atStart => exact ⟨0, _, Nat.zero_le _, rfl, rfl, (B1' _).out⟩
    case round =>
      obtain ⟨k, mb, hk, rfl, rfl, hbel⟩ := hrel
      have HB := Lib.hid hbel
      clear hbel
      by_cases hlt : k < q
      · obtain ⟨b', off', hbb, hck⟩ := (R1.out.below HB.out).val (Nat.lt_trans hlt hL1)
        injection hbb with hbb
        injection hbb with hb1 hb2
        subst hb1 hb2
        rw [dig_getD] at hck
        generalize N / 256 ^ k % 256 = y at *
        have k1 : (k : Int) < q := by omega
        have k2 : (k : Int) < (dig 256 N).length := by omega
        have k3 : 0 ≤ (k : Int) := by omega
        cases mb
        · go_wp2_with fail
          go_roundw
          case rel => exact ⟨k + 1, _, by omega, by go_num, rfl, HB.out⟩
          case measure => simp [intOf]; omega
        · go_wp2_with fail
          go_roundw
          case rel => exact ⟨k + 1, _, by omega, by go_num, rfl, HB.out⟩
          case measure => simp [intOf]; omega
      · obtain rfl : k = q := by omega
        have k1 : ¬ (k : Int) < k := by omega
        obtain ⟨wm, hwm⟩ : ∃ x, x = wr := ⟨_, rfl⟩
        subst hwm
        have HBs := HB.out.size
        go_wp2_with fail
        go_loopw [10, 11] (fun v i wx => ShrRel wm D k ((dig 256 N).length - k) v i wx) (fun _ i _ => (dig 256 N).length - (intOf i).toNat)
        case atStart => exact ⟨0, Nat.zero_le _, by simp, ⟨rfl, .inl ⟨rfl, rfl⟩⟩, Below.refl _ _⟩
        case round =>
          obtain ⟨j, hj, rfl, hown, hbel⟩ := hrel
          have HO := Lib.hid hown
          have HB2 := Lib.hid hbel
          have hsz := hbel.size
          clear hown hbel
          have HR := Lib.hid ((R1.out.below HB.out).below HB2.out)
          have hdg := digs_succ 256 D j
          have hsd := HSD.out j
          generalize hm2 : k + j = m at *
          by_cases hlt2 : m < (dig 256 N).length
          · obtain ⟨b', off', hbb, hckm⟩ := (R1.out.below HB.out).val hlt2
            injection hbb with hbb
            injection hbb with hb1 hb2
            subst hb1 hb2
            rw [dig_getD] at hckm
            have hbm : b < wm.heap.size := World.block_lt_of_cell? wm _ hckm
            have HBM := Lib.hid hbm
            have AT : ∀ d, Calls Try.prog 73 #[.slice (some ⟨b, off, none⟩) (dig 256 N).length c1, .int .i64 ((m : Int) + 1)] (wr.drewN d) fun e w' => e = .returned (.int .i64 ((N / 256 ^ (m + 1) % 256 : Nat) : Int)) ∧ wr.drewN d = w' := by
              intro d
              have := at_any (some ⟨b, off, none⟩) c1 N ((m : Int) + 1) (wr.drewN d) (HR.out.drewN d) (by omega)
              rwa [show ((m : Int) + 1).toNat = m + 1 from by omega] at this
            have y1 : N / 256 ^ m % 256 < 256 := Nat.mod_lt _ (by decide)
            have y2 : N / 256 ^ (m + 1) % 256 < 256 := Nat.mod_lt _ (by decide)
            generalize N / 256 ^ m % 256 = u at *
            generalize N / 256 ^ (m + 1) % 256 = v at *
            rw [← hsd] at hdg
            have s1 : IntKind.i64.wrap ((m : Int) + 1) = (m : Int) + 1 := IntWalk.i64_in _ (by omega)
            have s2 : IntKind.i64.wrap (256 * (v : Int)) = 256 * (v : Int) := IntWalk.i64_in _ (by omega)
            have s3 : IntKind.i64.wrap ((u : Int) + 256 * (v : Int)) = (u : Int) + 256 * (v : Int) := IntWalk.i64_in _ (by omega)
            obtain ⟨t, ht⟩ : ∃ t : Nat, t = (u + 256 * v) / p := ⟨_, rfl⟩
            have ht1 : t ≤ u + 256 * v := by rw [ht]; exact Nat.div_le_self _ _
            have s4 : ((u : Int) + 256 * (v : Int)).tdiv p = (t : Int) := by
              rw [Int.tdiv_eq_ediv_of_nonneg (by omega), ht]; push_cast; rfl
            have s4' : ((u : Int) + 256 * (v : Int)) / p = (t : Int) := by rw [ht]; push_cast; rfl
            have s5 : IntKind.i64.wrap (t : Int) = t := IntWalk.i64_in _ (by omega)
            have s6 : (t : Int).tmod 256 = (t : Int) % 256 := by rw [Int.tmod_eq_emod_of_nonneg (by omega)]
            have s7 : IntKind.i64.wrap ((t : Int) % 256) = (t : Int) % 256 := IntWalk.i64_in _ (by omega)
            have k2 : (m : Int) < (dig 256 N).length := by omega
            have k3 : 0 ≤ (m : Int) := by omega
            rw [← ht] at hdg
            have HDG := Lib.hid hdg
            have HAT := Lib.hid AT
            have HM := Lib.hid hm2
            clear hdg AT hm2 hsd ht
            go_wp2_with fail
            have hpn : p ≠ 0 := by omega
            have hbytes : (j + 1) * 8 ≤ 140737488355328 := by omega
            have hmax : j + 1 ≤ maxLen := by unfold maxLen; omega
            have hbase : ∀ (q : Nat) (o : Obj), wm.heap.size ≤ ((wr.drewN q).alloc o).heap.size := by intro q o; simp; omega
            have X1 := fun q => below_drewN' HB2.out q
            have X2 := fun q (o : Obj) => (X1 q).alloc HB2.out.size o
            have HY := Lib.hid (fun (wx : World) (hx : Below wm.heap.size wm wx) => (hx.cell (p := ⟨b, off + m, none⟩) HBM.out).trans hckm)
            have HX1 := Lib.hid X1
            have HX2 := Lib.hid X2
            clear X1 X2 hckm hbm
            go_region_held3 (fun w' => w'.cell? ⟨b, off + m, none⟩ = some (.int .i64 u))
              (first
                | exact HY.out _ (HX1.out 1)
                | exact HY.out _ (HX2.out 1 _)
                | exact HY.out _ HB4.out)
              (first
                | (go_at_call 73; refine (HAT.out 1).mono ?_; rintro e w' ⟨rfl, rfl⟩)
                | (go_at_call 72; refine (HPW.out wr 1).mono ?_; rintro e w' ⟨rfl, rfl⟩)
                | (refine step_append_lies _ (by rfl) _ _ _ (by rfl) wm.heap.size 3 i0 (.int .i64 0) 1 8 Try.underlying103 hi hz0 hz1 hz2 rfl (by omega) u10 j _ (by rfl) ((World.ownsRow.drew HO.out).alloc _) ⟨wr.heap.size, 0, none⟩ 1 1 [.int .i64 ((t : Int) % 256)] (by rfl) (by rfl) (World.news_of_block (cs := #[.int .i64 ((t : Int) % 256)]) (t := 3) (fr := (0, 0)) (heap_alloc_new wr.drew _)) (by simp [Value.oneCell']) (by omega) hmax hbytes (hbase 1 _) (wr.heap.size + 1) (by simp) ?_; intro gg cap w4 hown1 hgrow hat hlt; have HO2 := Lib.hid hown1; have HB4 := Lib.hid ((HX2.out 1 _).grown hgrow (by simp; omega) (fun q hq => (HO.out.lt q hq).1)); clear hown1 hgrow hat hlt))
            go_wp2_with fail
            go_roundw
            case rel =>
              have hHM := HM.out
              refine ⟨j + 1, by omega, ?_, ?_, HB4.out⟩
              · rw [show k + (j + 1) = m + 1 from by omega]; go_num
              · rw [HDG.out, vals_append, vals_one, show (((t % 256 : Nat)) : Int) = (t : Int) % 256 from by omega]
                exact HO2.out
            case measure => simp [intOf]; omega
          · obtain rfl : m = (dig 256 N).length := by omega
            obtain rfl : j = (dig 256 N).length - k := by omega
            obtain ⟨A', c', rfl, hnc, hcm, hcl', hrd⟩ := own_rd HO.out
            have RD := Lib.hid hrd
            clear hrd
            unfold maxLen at hcm
            go_wp2_with fail
            refine (limbs_any A' _ c' (digs 256 D ((dig 256 N).length - k)) wr (digs_len _ _ _) RD.out (digs_lt _ _ _ (by decide)) hnc (by omega) (by omega)).mono ?_
            rw [HV.out]
            rintro e w' ⟨A3, c3, rfl, h1, h2, h3, h4⟩
            have H1 := Lib.hid h1
            have H4 := Lib.hid h4
            clear h1 h4
            go_wp2_with fail
            go_ret3
            have BX : Below w.heap.size w wm := B1.out.trans (HB.out.mono B1.out.size)
            exact ⟨A3, c3, mb, rfl, H1.out, h2, h3, (BX.trans (HB2.out.mono BX.size)).trans (H4.out.mono (BX.trans (HB2.out.mono BX.size)).size)⟩

theorem shr_ref (A : Option Addr) (N n c : Nat) (w : World) (hA : CanAt w A N) (hm : ll N ≤ 262144) (hn : n ≤ 8388608) :
    Calls Try.prog 75 #[.slice A (ll N) c, .int .i64 n] w (NatPost3 w (N / 2 ^ n)) := by
  have := shr_core A N (n / 8) (n % 8) c n w hA hm (by omega) (by omega) (by omega)
  rwa [show 8 * (n / 8) + n % 8 = n from by omega] at this
end Go.Proofs.Ytaichdcknoopdaa
