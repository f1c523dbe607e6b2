/- The chapter's first examples hold: cruciblelaw05.lives answers true. -/
import Derived.Test.YtaichdcknoopdaaWhole
import Derived.Test.YtaichdcknoopdaaPlus
namespace Go.Proofs.Ytaichdcknoopdaa
open Go.RowKit
attribute [local go_sem] cfFrom cfBits cfFrom32 cfBits32

theorem bits32_c (w : World) :
    Calls Try.prog 15 #[.float .f32 1069547520] w fun e w' => e = .returned (.int .u32 1069547520) ∧ w = w' := by
  have h : (FloatKind.f32.format.order 1069547520 1069547520 != some Ordering.eq) = false := by decide +kernel
  go_enter Try.func15, Try.ntmps15
  go_wp2
  go_ret
  exact ⟨rfl, rfl⟩

theorem grown_drewN {W w' : World} (h : Grown W w') (n : Nat) : Grown W (w'.drewN n) := h

/-- true; one new block of cells, some draws -/
def LivesPost (w : World) (e : Ending) (w' : World) : Prop := ∃ c t n, e = .returned (.bool true) ∧ w' = (w.alloc (.cells c t)).drewN n

theorem lives_full (w : World) :
    Calls Try.prog 20 #[] w (LivesPost w) := by
  have s1 : singleO 4609434218613702656 = some (1069547520, true) := by decide +kernel
  have s2 : halfO 13970166044103278592 = some (64512, false) := by decide +kernel
  have s3 : wholeO 13970166044103278592 = some (-2147483648, true) := by decide +kernel
  have s4 : cmp64 0 9223372036854775808 = (0, true) := by decide +kernel
  have s5 : fold64 0 [4607182418800017408, 4607182418800017408] = 4611686018427387904 := by decide +kernel
  have s6 : fold64 0 [4607182418800017408, 4611686018427387904] = 4613937818241073152 := by decide +kernel
  have s7 : one64 4607182418800017408 = 4607182418800017408 := by decide +kernel
  have s8 : fromHalf64 15872 = 4609434218613702656 := by decide +kernel
  have S1 := Lib.hid s1
  have S2 := Lib.hid s2
  have S3 := Lib.hid s3
  have S4 := Lib.hid s4
  have S5 := Lib.hid s5
  have S6 := Lib.hid s6
  have S8 := Lib.hid s8
  clear s1 s2 s3 s4 s5 s6 s8
  go_enter Try.func20, Try.ntmps20
  go_wp2_with fail
  refine (float_any _ _).mono ?_; rintro e w' ⟨rfl, rfl⟩
  go_wp2_with fail
  refine (single_any _ _ S1.out _).mono ?_; rintro e w' ⟨rfl, rfl⟩
  go_wp2_with fail
  refine (float_any _ _).mono ?_; rintro e w' ⟨rfl, rfl⟩
  go_wp2_with fail
  refine (half_any _ (by decide) _ S2.out _).mono ?_; rintro e w' ⟨rfl, rfl⟩
  go_wp2_with fail
  refine (float_any _ _).mono ?_; rintro e w' ⟨rfl, rfl⟩
  go_wp2_with fail
  refine (whole_any _ _ S3.out _).mono ?_; rintro e w' ⟨rfl, rfl⟩
  go_wp2_with fail
  refine (float_any _ _).mono ?_; rintro e w' ⟨rfl, rfl⟩
  go_wp2_with fail
  refine (cmp_any _ _ _).mono ?_; rw [S4.out]; rintro e w' ⟨rfl, rfl⟩
  go_wp2_with fail
  refine (join_any _ _ _).mono ?_; rintro e w' ⟨rfl, rfl⟩
  go_wp2_with fail
  refine (join_any _ _ _).mono ?_; rintro e w' ⟨rfl, rfl⟩
  go_wp2_with fail
  refine (plus_any _ (some ⟨w.heap.size, 0, none⟩) 2 [4607182418800017408, 4607182418800017408] [4607182418800017408, 4611686018427387904] rfl (by decide) ?_).mono ?_
  · intro i hi
    have hi' : i = 0 ∨ i = 1 := by simp at hi; omega
    rcases hi' with rfl | rfl
    · exact ⟨_, _, rfl, by simp [go_sem]⟩
    · exact ⟨_, _, rfl, by simp [go_sem]⟩
  rintro e w' ⟨r, s, n, rfl, rfl, g1, g2, g3, g4⟩
  rw [S5.out] at g1
  rw [S6.out] at g2
  have G1 := Lib.hid g1
  have G2 := Lib.hid g2
  clear g1 g2
  go_wp2_with fail
  refine (bits_any _ _).mono ?_; rw [s7]; rintro e w' ⟨rfl, rfl⟩
  clear s7
  go_wp2_with fail
  refine (bits32_c _).mono ?_; rintro e w' ⟨rfl, rfl⟩
  go_wp2_with fail
  refine (float_any _ _).mono ?_; rintro e w' ⟨rfl, rfl⟩
  go_wp2_with fail
  refine (same_any _ _ _).mono ?_
  have e1 : ((one64 0 : Int) == (one64 9223372036854775808 : Int)) = false := by decide +kernel
  rw [e1]; rintro e w' ⟨rfl, rfl⟩
  clear e1
  go_wp2_with fail
  refine (join_any _ _ _).mono ?_; rintro e w' ⟨rfl, rfl⟩
  go_wp2_with fail
  refine (sameComplex_any _ _ _ _ _).mono ?_
  have e1 : decide (one64 r = one64 4611686018427387904 ∧ one64 s = one64 4613937818241073152) = true := by rw [G1.out, G2.out]; decide +kernel
  rw [e1]; rintro e w' ⟨rfl, rfl⟩
  clear e1
  go_wp2_with fail
  refine (fromHalf_any _ (by decide) _).mono ?_; rw [S8.out]; rintro e w' ⟨rfl, rfl⟩
  have e1 : F64.order 4609434218613702656 4609434218613702656 = some .eq := by decide +kernel
  go_wp2
  go_ret
  exact ⟨_, _, n, rfl, rfl⟩

theorem lives_any (w : World) :
    Calls Try.prog 20 #[] w fun e w' => e = .returned (.bool true) ∧ Grown w w' :=
  (lives_full w).mono fun _ _ ⟨_, _, n, h1, h2⟩ => ⟨h1, by subst h2; exact grown_drewN (Grown.alloc (Grown.refl _) _ _) n⟩

theorem below_drewN {B : Nat} {a w : World} (h : Below B a w) (n : Nat) : Below B a (w.drewN n) := ⟨h.os, h.tape, h.output, h.size, h.block⟩

theorem lives_below (w : World) :
    Calls Try.prog 20 #[] w fun e w' => e = .returned (.bool true) ∧ Below w.heap.size w w' :=
  (lives_full w).mono fun _ _ ⟨_, _, n, h1, h2⟩ => ⟨h1, by subst h2; exact below_drewN ((Below.refl _ _).alloc (Nat.le_refl _) _) n⟩
end Go.Proofs.Ytaichdcknoopdaa
