/- Contract of cruciblelaw05.RealJoins. -/
import Derived.Test.YtaichdcknoopdaaJoins0
import Derived.Test.YtaichdcknoopdaaPairs
import Derived.Deep.QuietTactic
import Derived.BigQuiet
import Derived.Deep.RegionHeld3
import Derived.Deep.DeepCutAuto
namespace Go.Proofs.Ytaichdcknoopdaa
open Go.RowKit

/-- a pattern of 64 bits -/
def U64 (n : Nat) : Prop := n < 18446744073709551616
theorem one_u (n : Nat) (h : U64 n) (w : World) :
    Calls Try.prog 24 #[.int .u64 n] w fun e w' => e = .returned (.int .u64 (one64 n)) ∧ w = w' := one_any n h w
theorem turned_u (n : Nat) (h : U64 n) (w : World) :
    Calls Try.prog 41 #[.int .u64 n] w fun e w' => e = .returned (.int .u64 (one64 (Op.negFloat .f64 n))) ∧ w = w' := turned_any n h w

set_option maxRecDepth 100000 in
set_option maxHeartbeats 4000000 in
theorem joins_any (x1 y1 x2 y2 : Nat) (b1 : U64 x1) (b2 : U64 y1) (b3 : U64 x2) (b4 : U64 y2) (B1 B2 : Bool) (h1 : ((one64 x1 : Int) == (one64 x2 : Int)) = B1) (h2 : ((one64 y1 : Int) == (one64 y2 : Int)) = B2) (w : World) :
    Calls Try.prog 9 #[.agg #[.int .u64 x1, .int .u64 y1], .agg #[.int .u64 x2, .int .u64 y2]] w fun e w' => e = .returned (.bool true) ∧ Below w.heap.size w w' := by
  have IS1 : ∀ wx, Calls Try.prog 38 #[.complex .f64 x1 y1, .int .u64 (one64 x1), .int .u64 (one64 y1)] wx fun e w' => e = .returned (.bool true) ∧ wx = w' := fun wx => by
    have := is_any x1 y1 (one64 x1) (one64 y1) wx
    rwa [decide_eq_true (show one64 x1 = one64 x1 ∧ one64 y1 = one64 y1 from ⟨rfl, rfl⟩)] at this
  have IS2 : ∀ wx, Calls Try.prog 38 #[.complex .f64 x1 (Op.negFloat .f64 y1), .int .u64 (one64 x1), .int .u64 (one64 (Op.negFloat .f64 y1))] wx fun e w' => e = .returned (.bool true) ∧ wx = w' := fun wx => by
    have := is_any x1 (Op.negFloat .f64 y1) (one64 x1) (one64 (Op.negFloat .f64 y1)) wx
    rwa [decide_eq_true (show one64 x1 = one64 x1 ∧ one64 (Op.negFloat .f64 y1) = one64 (Op.negFloat .f64 y1) from ⟨rfl, rfl⟩)] at this
  have SC1 : ∀ wx, Calls Try.prog 39 #[.complex .f64 x1 y1, .complex .f64 x1 y1] wx fun e w' => e = .returned (.bool true) ∧ wx = w' := fun wx => by
    have := sameComplex_any x1 y1 x1 y1 wx
    rwa [decide_eq_true (show one64 x1 = one64 x1 ∧ one64 y1 = one64 y1 from ⟨rfl, rfl⟩)] at this
  have SC2 : ∀ wx, Calls Try.prog 39 #[.complex .f64 x1 y1, .complex .f64 x2 y2] wx fun e w' => e = .returned (.bool (B1 && B2)) ∧ wx = w' := fun wx => by
    have := sameComplex_any x1 y1 x2 y2 wx
    rwa [show decide (one64 x1 = one64 x2 ∧ one64 y1 = one64 y2) = (B1 && B2) from by rw [← h1, ← h2, Bool.eq_iff_iff]; simp; omega] at this
  have HIS1 := Lib.hid IS1
  have HIS2 := Lib.hid IS2
  have HSC1 := Lib.hid SC1
  have HSC2 := Lib.hid SC2
  clear IS1 IS2 SC1 SC2
  have HSUM := Lib.hid (fun a b (ha : U64 a) (hb : U64 b) wx => rsum_any a b ha hb wx)
  have HONE := Lib.hid one_u
  have HTURN := Lib.hid turned_u
  have t1 : U64 (one64 (Op.negFloat .f64 x2)) := one64_lt _ (neg64_lt _ b3)
  have t2 : U64 (one64 (Op.negFloat .f64 y2)) := one64_lt _ (neg64_lt _ b4)
  have e1 := Lib.hid (sub64_turn x1 x2)
  have e2 := Lib.hid (sub64_turn y1 y2)
  have CB := Lib.hid (show ∀ wb, wb = ((w.alloc (.cells #[.int .u64 x1, .int .u64 y1] 51)).alloc (.cells #[.int .u64 x2, .int .u64 y2] 51)) → Below w.heap.size w wb ∧ ∀ wx, Below wb.heap.size wb wx →
      wx.cell? ⟨w.heap.size, 0, none⟩ = some (.int .u64 x1) ∧ wx.cell? ⟨w.heap.size, 1, none⟩ = some (.int .u64 y1) ∧ wx.cell? ⟨w.heap.size + 1, 0, none⟩ = some (.int .u64 x2) ∧ wx.cell? ⟨w.heap.size + 1, 1, none⟩ = some (.int .u64 y2) from by
    rintro wb rfl
    refine ⟨((Below.refl _ _).alloc (Nat.le_refl _) _).alloc (by simp) _, fun wx h => ⟨?_, ?_, ?_, ?_⟩⟩
    · rw [h.cell (p := ⟨w.heap.size, 0, none⟩) (by simp; omega)]; simp
    · rw [h.cell (p := ⟨w.heap.size, 1, none⟩) (by simp; omega)]; simp
    · rw [h.cell (p := ⟨w.heap.size + 1, 0, none⟩) (by simp)]; simp
    · rw [h.cell (p := ⟨w.heap.size + 1, 1, none⟩) (by simp)]; simp)
  cases B1
  all_goals
    cases B2
    all_goals
      go_enter Try.func9, Try.ntmps9
      go_wp2_with fail
      obtain ⟨wb, hwb⟩ : ∃ wb, wb = ((w.alloc (.cells #[.int .u64 x1, .int .u64 y1] 51)).alloc (.cells #[.int .u64 x2, .int .u64 y2] 51)) := ⟨_, rfl⟩
      have Q := CB.out wb hwb
      rw [← hwb]
      have B0 := Lib.hid Q.1
      have CF := Lib.hid Q.2
      clear Q CB hwb
      refine (number_any _ _ _).mono ?_
      rintro e w1 ⟨rfl, h1⟩
      have N1 := Lib.hid h1
      obtain ⟨c1, c2, c3, c4⟩ := CF.out w1 h1
      clear h1
      go_wp2_with fail
      refine (number_any _ _ _).mono ?_
      rintro e w2 ⟨rfl, h2⟩
      have N2 := Lib.hid (N1.out.trans (h2.mono N1.out.size))
      clear h2 N1 c1 c2 c3 c4
      obtain ⟨c1, c2, c3, c4⟩ := CF.out w2 N2.out
      go_wp2_with fail
      go_quiet ((go_at_call 24; exact quiet_all (HONE.out _ (by assumption))))
      go_wp2_with fail
      go_quiet ((first | (go_at_call 24; exact quiet_more (HONE.out _ (by assumption))) | (go_at_call 38; exact quiet_more HIS1.out) | (go_at_call 39; first | (with_reducible exact quiet_more HSC2.out) | exact quiet_more HSC1.out)))
      go_wp2_with fail
      go_quiet ((first | (go_at_call 24; exact quiet_more (HONE.out _ (by assumption))) | (go_at_call 38; exact quiet_more HIS2.out) | (go_at_call 40; exact quiet_more (flip_any _ _)) | (go_at_call 41; exact quiet_more (HTURN.out _ (by assumption)))))
      go_wp2_with fail
      generalize hwq : ((w2.drewN _).drewN _).drewN _ = wq
      have BQ : Hid (Below wb.heap.size wb wq) := Lib.hid (hwq ▸ below_drewN' (below_drewN' (below_drewN' N2.out _) _) _)
      clear hwq c1 c2 c3 c4 N2
      obtain ⟨c1, c2, c3, c4⟩ := CF.out wq BQ.out
      clear c2 c4
      go_region_held3 (fun w' => w'.cell? ⟨w.heap.size, 0, none⟩ = some (.int .u64 x1) ∧ w'.cell? ⟨w.heap.size + 1, 0, none⟩ = some (.int .u64 x2))
        (first
          | exact ⟨c1, c3⟩
          | exact ⟨(CF.out _ BS1.out).1, (CF.out _ BS1.out).2.2.1⟩)
        (first
          | (go_at_call 41; refine (HTURN.out x2 b3 _).mono ?_; rintro e w' ⟨rfl, rfl⟩)
          | (go_at_call 42; refine (HSUM.out x1 _ b1 t1 _).mono ?_; rintro e w3 ⟨rfl, h3⟩; have BS1 := Lib.hid ((below_drewN' BQ.out 1).trans (h3.mono (below_drewN' BQ.out 1).size)); clear h3))
      clear c1 c3 BQ
      obtain ⟨-, c2, -, c4⟩ := CF.out w3 BS1.out
      go_wp2_with fail
      go_region_held3 (fun w' => w'.cell? ⟨w.heap.size, 1, none⟩ = some (.int .u64 y1) ∧ w'.cell? ⟨w.heap.size + 1, 1, none⟩ = some (.int .u64 y2))
        (first
          | exact ⟨c2, c4⟩
          | exact ⟨(CF.out _ BS2.out).2.1, (CF.out _ BS2.out).2.2.2⟩)
        (first
          | (go_at_call 41; refine (HTURN.out y2 b4 _).mono ?_; rintro e w' ⟨rfl, rfl⟩)
          | (go_at_call 42; refine (HSUM.out y1 _ b2 t2 _).mono ?_; rintro e w4 ⟨rfl, h4⟩; have BS2 := Lib.hid ((below_drewN' BS1.out 1).trans (h4.mono (below_drewN' BS1.out 1).size)); clear h4))
      clear c2 c4 BS1
      go_wp2_with fail
      refine (minus_any _ _ _ _ _).mono ?_
      rintro e w5 ⟨r, s, m, rfl, rfl, k1, k2, -, -⟩
      have IS3 : Hid (∀ wx, Calls Try.prog 38 #[.complex .f64 r s, .int .u64 (add64 x1 (one64 (Op.negFloat .f64 x2))), .int .u64 (add64 y1 (one64 (Op.negFloat .f64 y2)))] wx fun e w' => e = .returned (.bool true) ∧ wx = w') := Lib.hid (fun wx => by
        have := is_any r s (add64 x1 (one64 (Op.negFloat .f64 x2))) (add64 y1 (one64 (Op.negFloat .f64 y2))) wx
        rwa [decide_eq_true (show one64 r = add64 x1 (one64 (Op.negFloat .f64 x2)) ∧ one64 s = add64 y1 (one64 (Op.negFloat .f64 y2)) from ⟨k1.trans e1.out, k2.trans e2.out⟩)] at this)
      clear k1 k2 e1 e2
      go_wp2_with fail
      refine (IS3.out _).mono ?_
      rintro e w' ⟨rfl, rfl⟩
      clear IS3
      go_wp2_with fail
      refine (lives_below _).mono ?_
      rintro e w6 ⟨rfl, h6⟩
      have BZ : Hid (Below w.heap.size w w6) := Lib.hid (B0.out.trans (((below_drewN' BS2.out _).trans (h6.mono (below_drewN' BS2.out _).size)).mono B0.out.size))
      clear h6 BS2
      go_wp2_with fail
      go_ret
      exact ⟨rfl, BZ.out⟩
end Go.Proofs.Ytaichdcknoopdaa
