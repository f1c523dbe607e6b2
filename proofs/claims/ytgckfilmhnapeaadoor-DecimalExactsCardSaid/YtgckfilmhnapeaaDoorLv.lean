/- law07.lives: a half and a tenth: the law's own trial answers true. -/
import Derived.Test.YtgckfilmhnapeaaDoorExC
import Derived.Test.YtgckfilmhnapeaaDoorDrC
import Derived.Test.YtgckfilmhnapeaaDoorCv
namespace Go.Proofs.YtgckfilmhnapeaaDoor
open Go.RowKit Go.Lib
set_option linter.unusedVariables false

/-- the digits that are told of a number and its power of ten are the only ones -/
theorem dg_unique (N M k j : Nat) (hN : N ≠ 0) (hM : M ≠ 0) (h : N * 10 ^ j = M * 10 ^ k) :
    plainS (digitsS N) = plainS (digitsS M) ∧ ((digitsS N).size : Int) - (k : Int) = ((digitsS M).size : Int) - (j : Int) := by
  have dN := digL_of_fine _ (digitsS_fine N hN)
  have dM := digL_of_fine _ (digitsS_fine M hM)
  obtain ⟨a, la, va⟩ := nval_plain (digitsS N).data.toList
  obtain ⟨b, lb, vb⟩ := nval_plain (digitsS M).data.toList
  rw [nval_digitsS N hN] at va
  rw [nval_digitsS M hM] at vb
  rw [(digitsS_lead N hN).2, bytes_len] at la
  rw [(digitsS_lead M hM).2, bytes_len] at lb
  have nN : plainL (digitsS N).data.toList ≠ [] := fun e => by rw [e] at va; simp [nval] at va; exact hN va
  have nM : plainL (digitsS M).data.toList ≠ [] := fun e => by rw [e] at vb; simp [nval] at vb; exact hM vb
  rw [va, vb, Nat.mul_assoc, Nat.mul_assoc, ← Nat.pow_add, ← Nat.pow_add] at h
  obtain ⟨e1, e2⟩ := bare_unique _ _ (bare_plain _ dN) (bare_plain _ dM) nN nM _ _ h
  refine ⟨by unfold plainS; rw [e1], ?_⟩
  rw [e1] at la
  omega
theorem half_spec : RdSpec 10 24 30 5 (-1) 14336 := near_exact _ _ _ _ _ (by decide +kernel) (by decide +kernel) (by decide +kernel)
theorem half_text : plainS (digitsS 5) = ⟨#[53]⟩ ∧ (digitsS 5).size = 1 := by
  have h : digitsS 5 = ⟨#[53]⟩ := by decide +kernel
  rw [h]
  exact ⟨by decide +kernel, by decide +kernel⟩
theorem half_exact (N k : Nat) (hN : N ≠ 0) (h : N * 2 ^ 24 = pv 10 14336 * 10 ^ k) : plainS (digitsS N) = ⟨#[53]⟩ ∧ ((digitsS N).size : Int) - (k : Int) = 0 := by
  have hp : pv 10 14336 = 2 ^ 23 := by decide +kernel
  have h2 : N * 2 = 10 ^ k := by
    rw [hp] at h
    have e : (2 : Nat) ^ 24 = 2 ^ 23 * 2 := by decide
    rw [e, Nat.mul_left_comm] at h
    exact Nat.eq_of_mul_eq_mul_left (by decide) h
  obtain ⟨e1, e2⟩ := dg_unique N 5 k 1 hN (by decide) (by rw [← h2]; omega)
  rw [half_text.1] at e1
  rw [half_text.2] at e2
  exact ⟨e1, by rw [e2]; decide⟩

set_option maxRecDepth 100000 in
set_option maxHeartbeats 4000000 in
theorem lives7_any (w : World) (hT : Tabs w) : Calls Tryd.prog 18 #[] w fun e w' => e = .returned (.bool true) ∧ Below w.heap.size w w' := by
  have HTB := Lib.hid (fun wx (hb : Below w.heap.size w wx) => hT.below hb)
  have HR : Hid (∀ wx, Below w.heap.size w wx → Calls Tryd.prog 42 #[.agg #[.bool false, .string ⟨#[53]⟩, .int .i64 0]] wx fun e w' => e = .returned (.tuple #[.int .u16 14336, .bool true]) ∧ Below wx.heap.size wx w') := Lib.hid (fun wx hb => by
    refine (dread_C false ⟨#[53]⟩ 0 wx (HTB.out wx hb) (by decide +kernel) (by decide +kernel) (by decide) (by decide)).mono ?_
    rintro e w' ⟨sz, rfl, hs, hb⟩
    have hsz : sz = 14336 := hs.unique half_spec
    subst hsz
    exact ⟨rfl, hb⟩)
  have HX : Hid (∀ wx, Below w.heap.size w wx → Calls Tryd.prog 36 #[.int .u16 14336] wx fun e w' => e = .returned (.tuple #[.agg #[.bool false, .string ⟨#[53]⟩, .int .i64 0], .bool true]) ∧ Below wx.heap.size wx w') := Lib.hid (fun wx hb => by
    refine (exact_C 14336 (by decide) wx (HTB.out wx hb)).mono ?_
    rintro e w' ⟨hb, ⟨h, -⟩ | ⟨h, -⟩ | ⟨-, -, N, k, rfl, hN, hv⟩⟩
    · exact absurd h (by decide)
    · exact absurd h (by decide)
    · obtain ⟨e1, e2⟩ := half_exact N k hN hv
      refine ⟨?_, hb⟩
      rw [e1, e2]
      rfl)
  have HC : Hid (∀ wx, Calls Tryd.prog 10 #[.agg #[.bool false, .string ⟨#[49]⟩, .int .i64 0], .agg #[.bool false, .string ⟨#[53]⟩, .int .i64 0]] wx fun e w' => e = .returned (.tuple #[.int .i64 (-1), .bool true]) ∧ Below wx.heap.size wx w') := Lib.hid (fun wx => by
    refine (dcmp_any false false ⟨#[49]⟩ ⟨#[53]⟩ 0 0 wx (by decide) (by decide) (by decide) (by decide) (by decide +kernel) (by decide +kernel)).mono ?_
    rintro e w' ⟨rfl, hb⟩
    refine ⟨?_, hb⟩
    rw [show cmpV false ⟨#[49]⟩ 0 false ⟨#[53]⟩ 0 = -1 by decide +kernel, show bothB ⟨#[49]⟩ ⟨#[53]⟩ = true by decide +kernel])
  clear hT HTB
  go_enter Tryd.func18, Tryd.ntmps18
  go_wp2_with fail
  refine (HR.out _ (Below.refl _ _)).mono ?_
  rintro e w1 ⟨rfl, hb1⟩
  have HB1 := Lib.hid hb1
  clear hb1
  go_wp2_with fail
  refine (HX.out _ HB1.out).mono ?_
  rintro e w2 ⟨rfl, hb2⟩
  have HB2 := Lib.hid (HB1.out.trans (hb2.mono HB1.out.size))
  clear hb2
  go_wp2_with fail
  have HB3 := Lib.hid ((HB2.out.alloc HB2.out.size (.cells #[.bool false, .string ⟨#[53]⟩, .int .i64 0] 23)))
  have HK3 := Lib.hid (dgC_new w2 false ⟨#[53]⟩ 0 23)
  refine (HC.out _).mono ?_
  rintro e w4 ⟨rfl, hb4⟩
  have HB4 := Lib.hid (HB3.out.trans (hb4.mono HB3.out.size))
  have HK4 := Lib.hid (HK3.out.below hb4)
  have n0 := HK4.out.c0
  have n1 := HK4.out.c1
  have n2 := HK4.out.c2
  clear hb4 HR HX HC HB1 HB2 HB3 HK3 HK4
  go_wp2_with fail
  go_ret
  exact ⟨rfl, HB4.out⟩
end Go.Proofs.YtgckfilmhnapeaaDoor
