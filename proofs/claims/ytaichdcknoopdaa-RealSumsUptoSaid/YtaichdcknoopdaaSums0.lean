/- Contracts of cruciblelaw05.sums, and of cruciblelaw01's complex numbers: markComplex, isComplex, SameFloat, SameComplex at one number twice. -/
import Derived.Test.YtaichdcknoopdaaJoins
namespace Go.Proofs.Ytaichdcknoopdaa
open Go.RowKit

def SumsRel (w : World) (ps : List (Nat × Nat)) (v5 v6 v7 : Value) (wr : World) : Prop :=
  ∃ k : Nat, k ≤ ps.length ∧ v7 = .int .i64 k ∧ v5 = .int .u64 ((fold64 0 ((ps.map (·.1)).take k) : Nat) : Int) ∧ v6 = .int .u64 ((fold64 0 ((ps.map (·.2)).take k) : Nat) : Int) ∧ Below w.heap.size w wr

theorem fold_U (l : List Nat) : U64 (fold64 0 l) := (fold0 l).2

set_option maxRecDepth 100000 in
set_option maxHeartbeats 2000000 in
theorem sums_any (w : World) (X L : Option Addr) (c d : Nat) (ps : List (Nat × Nat)) (hl : ps.length ≤ 1048576) (hXb : ∀ wx, Below w.heap.size w wx → CplxAt wx X (ps.map (·.1)) (ps.map (·.2)))
    (hL : PairsAt w L ps) (hbd : ∀ p ∈ ps, U64 p.1 ∧ U64 p.2) :
    Calls Try.prog 27 #[.slice X ps.length c, .slice L ps.length d] w fun e w' => e = .returned (.bool true) ∧ Below w.heap.size w w' := by
  have HX := Lib.hid hXb
  have HL := Lib.hid hL
  have BD := Lib.hid hbd
  clear hXb hL hbd
  have HSUM := Lib.hid (fun a b (ha : U64 a) (hb : U64 b) wx => rsum_any a b ha hb wx)
  go_enter Try.func27, Try.ntmps27
  go_wp2_with fail
  go_loopw [5, 6, 7] (fun v5 v6 v7 wr => SumsRel w ps v5 v6 v7 wr) (fun _ _ v7 _ => ps.length - (intOf v7).toNat)
  case atStart => exact ⟨0, Nat.zero_le _, rfl, rfl, rfl, Below.refl _ _⟩
  case round =>
    obtain ⟨k, hk, rfl, rfl, rfl, hb⟩ := hrel
    have HB := Lib.hid hb
    clear hb
    by_cases hlt : k < ps.length
    · obtain ⟨b, off, rfl, hb, hc1, hc2⟩ := HL.out k hlt
      have c1 : wr.cell? ⟨b, off + k * 2, none⟩ = _ := (HB.out.cell hb).trans hc1
      have HC : Hid (w.cell? ⟨b, off + k * 2 + 1, none⟩ = _) := Lib.hid hc2
      have HBB := Lib.hid hb
      clear hc1 hc2 hb
      have u := BD.out _ (List.getElem_mem hlt)
      have eq1 : (ps.map (·.1)).getD k 0 = (ps.getD k (0, 0)).1 := by simp [hlt]
      have eq2 : (ps.map (·.2)).getD k 0 = (ps.getD k (0, 0)).2 := by simp [hlt]
      have f1 := fold64_take 0 (ps.map (·.1)) k (by simpa using hlt)
      have f2 := fold64_take 0 (ps.map (·.2)) k (by simpa using hlt)
      rw [eq1] at f1
      rw [eq2] at f2
      rw [show ps[k] = ps.getD k (0, 0) from by simp [hlt]] at u
      generalize ps.getD k (0, 0) = p at *
      obtain ⟨x, y⟩ := p
      simp only at *
      obtain ⟨u1, u2⟩ := u
      have F1 := Lib.hid f1
      have F2 := Lib.hid f2
      have g1 := fold_U ((ps.map (·.1)).take k)
      have g2 := fold_U ((ps.map (·.2)).take k)
      clear f1 f2 eq1 eq2
      generalize fold64 0 ((ps.map (·.1)).take k) = s at *
      generalize fold64 0 ((ps.map (·.2)).take k) = t at *
      go_wp2_with fail
      refine (HSUM.out s x g1 u1 _).mono ?_
      rintro e w1 ⟨rfl, h1⟩
      have B1 := Lib.hid (HB.out.trans (h1.mono HB.out.size))
      clear h1 c1
      have c2 : w1.cell? ⟨b, off + k * 2 + 1, none⟩ = _ := (B1.out.cell HBB.out).trans HC.out
      go_wp2_with fail
      refine (HSUM.out t y g2 u2 _).mono ?_
      rintro e w2 ⟨rfl, h1⟩
      have B2 := Lib.hid (B1.out.trans (h1.mono B1.out.size))
      clear h1 c2
      go_wp2_with fail
      go_roundw
      case rel => exact ⟨k + 1, by omega, by go_num, by rw [F1.out], by rw [F2.out], B2.out⟩
      case measure => simp [intOf]; omega
    · obtain rfl : k = ps.length := by omega
      have e1 : (ps.map (·.1)).take ps.length = ps.map (·.1) := List.take_of_length_le (by simp)
      have e2 : (ps.map (·.2)).take ps.length = ps.map (·.2) := List.take_of_length_le (by simp)
      have HCX := Lib.hid (HX.out wr HB.out)
      clear hk
      go_wp2_with fail
      refine (plus_n wr X c ps.length (ps.map (·.1)) (ps.map (·.2)) (by simp) (by simp) (by omega) HCX.out).mono ?_
      rintro e w1 ⟨r, s, m, rfl, rfl, k1, k2, -, -⟩
      have IS := Lib.hid (is_any r s (fold64 0 (ps.map (·.1))) (fold64 0 (ps.map (·.2))))
      rw [decide_eq_true (show one64 r = fold64 0 (ps.map (·.1)) ∧ one64 s = fold64 0 (ps.map (·.2)) from ⟨k1, k2⟩)] at IS
      clear k1 k2
      go_wp2_with fail
      refine (IS.out _).mono ?_
      rintro e w2 ⟨rfl, rfl⟩
      go_wp2_with fail
      go_ret
      exact ⟨rfl, below_drewN' HB.out _⟩

/-- what stands behind a copy -/
def markX : Nat := floatOfInt .f64 (-777777)
theorem mark_any (w : World) :
    Calls Try.prog 58 #[.int .i64 777777] w fun e w' => e = .returned (.complex .f64 markX 4607182418800017408) ∧ w = w' := by
  have H : Hid (markX = floatOfInt .f64 (-777777)) := Lib.hid rfl
  go_enter Try.func58, Try.ntmps58
  go_wp2
  go_ret
  exact ⟨by rw [H.out] <;> rfl, rfl⟩
theorem isMark_any (w : World) :
    Calls Try.prog 60 #[.complex .f64 markX 4607182418800017408, .int .i64 777777] w fun e w' => e = .returned (.bool true) ∧ w = w' := by
  have h1 : F64.order markX markX = some .eq := by decide +kernel
  have h2 : F64.order 4607182418800017408 4607182418800017408 = some .eq := by decide +kernel
  have H : floatOfInt .f64 (-777777) = markX := rfl
  go_enter Try.func60, Try.ntmps60
  go_wp2
  go_ret
  exact ⟨rfl, rfl⟩

theorem order_self {x : Nat} (h : nan64 x = false) : F64.order x x = some .eq := by
  have := order64_self x
  rw [h] at this
  simpa using this

theorem sameFloat_self (x : Nat) (hx : U64 x) (w : World) :
    Calls Try.prog 77 #[.float .f64 x, .float .f64 x] w fun e w' => e = .returned (.bool true) ∧ w = w' := by
  cases hn : nan64 x with
  | true =>
    have h1 : (F64.order x x != some .eq) = true := by rw [order64_self, hn]
    clear hn hx
    go_enter Try.func77, Try.ntmps77
    go_wp2
    go_ret
    exact ⟨rfl, rfl⟩
  | false =>
    have h1 : F64.order x x = some .eq := order_self hn
    by_cases hz : x = 0 ∨ x = 9223372036854775808
    · have hq : ∃ q, (floatBits .quo .f64 4607182418800017408 x) = some q ∧ F64.order q q = some .eq := by
        rcases hz with rfl | rfl
        · exact ⟨9218868437227405312, by decide +kernel, by decide +kernel⟩
        · exact ⟨18442240474082181120, by decide +kernel, by decide +kernel⟩
      obtain ⟨q, hq1, hq2⟩ := hq
      have h3 : (F64.order x 0 != some .eq) = false := by rcases hz with rfl | rfl <;> decide +kernel
      have h4 := run_float_arith (P := Try.prog) w .quo 29 .f64 4607182418800017408 x q hq1
      clear hn hx hz hq1
      go_enter Try.func77, Try.ntmps77
      go_wp2
      go_ret
      exact ⟨rfl, rfl⟩
    · have h3 : (F64.order x 0 != some .eq) = true := by
        have g1 : x % 9223372036854775808 ≤ 9218868437227405312 := by simp [nan64] at hn; omega
        have g2 : x < 18446744073709551616 := hx
        rw [order64_rank x 0 g1 (by omega)]
        have g3 : rank64 x ≠ rank64 0 := by
          unfold rank64
          simp only [Nat.zero_div, Nat.zero_mod]
          split <;> omega
        generalize rank64 x = a at *
        generalize rank64 0 = b at *
        simp only [compare, compareOfLessAndEq]
        by_cases q : a < b
        · rw [if_pos q]; decide
        · rw [if_neg q, if_neg g3]; decide
      clear hn hx hz
      go_enter Try.func77, Try.ntmps77
      go_wp2
      go_ret
      exact ⟨rfl, rfl⟩

theorem sameCplx_self (x y : Nat) (hx : U64 x) (hy : U64 y) (w : World) :
    Calls Try.prog 70 #[.complex .f64 x y, .complex .f64 x y] w fun e w' => e = .returned (.bool true) ∧ w = w' := by
  go_enter Try.func70, Try.ntmps70
  go_wp2_with fail
  refine (sameFloat_self x hx _).mono ?_
  rintro e w' ⟨rfl, rfl⟩
  go_wp2_with fail
  refine (sameFloat_self y hy _).mono ?_
  rintro e w' ⟨rfl, rfl⟩
  go_wp2_with fail
  go_ret
  exact ⟨rfl, rfl⟩

def SCRel (w : World) (n : Nat) (v : Value) (wr : World) : Prop := ∃ k q : Nat, k ≤ n ∧ v = .int .i64 k ∧ wr = w.drewN q

set_option maxRecDepth 100000 in
set_option maxHeartbeats 1000000 in
theorem sameCplxs_self (w : World) (X Y : Option Addr) (n c d : Nat) (ps : List (Nat × Nat)) (hn : ps.length = n) (hl : n ≤ 1048576) (hX : Rd w X (cvals ps)) (hY : Rd w Y (cvals ps)) (hbd : ∀ p ∈ ps, U64 p.1 ∧ U64 p.2) :
    Calls Try.prog 59 #[.slice X n c, .slice Y n d] w fun e w' => e = .returned (.bool true) ∧ ∃ q, w' = w.drewN q := by
  subst hn
  have HX := Lib.hid (rd_cplx hX)
  have HY := Lib.hid (rd_cplx hY)
  have BD := Lib.hid hbd
  clear hX hY hbd
  have HSC := Lib.hid sameCplx_self
  have ne1 : ((ps.length : Int) != (ps.length : Int)) = false := by simp
  go_enter Try.func59, Try.ntmps59
  go_wp2_with fail
  go_loopw [5] (fun v wr => SCRel w ps.length v wr) (fun v _ => ps.length - (intOf v).toNat)
  case atStart => exact ⟨0, 0, Nat.zero_le _, rfl, rfl⟩
  case round =>
    obtain ⟨k, q, hk, rfl, rfl⟩ := hrel
    by_cases hlt : k < ps.length
    · have u := BD.out _ (List.getElem_mem hlt)
      obtain ⟨b, off, rfl, c1⟩ := HX.out k (by simpa using hlt)
      obtain ⟨b', off', rfl, c2⟩ := HY.out k (by simpa using hlt)
      have eq1 : (ps.map (·.1)).getD k 0 = ps[k].1 := by simp [hlt]
      have eq2 : (ps.map (·.2)).getD k 0 = ps[k].2 := by simp [hlt]
      rw [eq1, eq2] at c1 c2
      clear eq1 eq2
      generalize ps[k] = p at *
      obtain ⟨x, y⟩ := p
      simp only at *
      obtain ⟨u1, u2⟩ := u
      have k0 : 0 ≤ (k : Int) := by omega
      have k1 : (k : Int) < ps.length := by omega
      go_wp2_with fail
      go_quiet ((go_at_call 70; exact quiet_more (HSC.out x y u1 u2)))
      go_wp2_with fail
      go_roundw
      case rel => exact ⟨k + 1, _, by omega, by go_num, rfl⟩
      case measure => simp [intOf]; omega
    · go_wp2_with fail
      go_ret
      exact ⟨rfl, q, rfl⟩
end Go.Proofs.Ytaichdcknoopdaa
