/- The reference's patterns: crucibleref04.Of, two, Sign, Inf, Neg, Size, Number, Parts. -/
import Derived.Test.YtgckfilmhnapeaaDoorLx
namespace Go.Proofs.YtgckfilmhnapeaaDoor
open Go.RowKit Go.Lib
set_option linter.unusedVariables false

/-- a width: bits, fraction, least power, top, sign, infinite one -/
def Wid (b : Int) (f l T S I : Nat) : Prop :=
  (b = 16 ∧ f = 10 ∧ l = 24 ∧ T = 31 ∧ S = 32768 ∧ I = 31744) ∨ (b = 32 ∧ f = 23 ∧ l = 149 ∧ T = 255 ∧ S = 2147483648 ∧ I = 2139095040) ∨
    (b = 64 ∧ f = 52 ∧ l = 1074 ∧ T = 2047 ∧ S = 9223372036854775808 ∧ I = 9218868437227405312)
theorem wid_of (u : Int) : Wid (wB u) (wF u) (wL u) (wW u + 1) (wS u) (wI u) := by
  unfold Wid wB wF wL wW wS wI
  by_cases h1 : u % 4 = 1
  · simp only [h1, if_true]; decide
  · by_cases h2 : u % 4 = 2
    · simp only [h2, if_true]; decide
    · rw [if_neg h1, if_neg h2, if_neg h1, if_neg h2, if_neg h1, if_neg h2, if_neg h1, if_neg h2, if_neg h1, if_neg h2, if_neg h1, if_neg h2]; decide
theorem Wid.facts {b : Int} {f l T S I : Nat} (h : Wid b f l T S I) : f ≤ 52 ∧ l ≤ 1074 ∧ T ≤ 2047 ∧ 1 ≤ T ∧ 2 ^ f ≤ 4503599627370496 ∧ T * 2 ^ f = I ∧ I < S ∧ S ≤ 9223372036854775808 ∧ 1 ≤ b ∧ b ≤ 64 ∧ 2 ^ (b.toNat - 1) = S ∧ 0 < I := by
  rcases h with ⟨rfl, rfl, rfl, rfl, rfl, rfl⟩ | ⟨rfl, rfl, rfl, rfl, rfl, rfl⟩ | ⟨rfl, rfl, rfl, rfl, rfl, rfl⟩ <;> decide

set_option maxRecDepth 100000 in
theorem of_ref {b : Int} {f l T S I : Nat} (h : Wid b f l T S I) (w : World) : Calls Tryd.prog 79 #[.int .i64 b] w fun e w' => e = .returned (.agg #[.int .i64 f, .int .i64 (-(l : Int)), .int .i64 T]) ∧ Below w.heap.size w w' := by
  rcases h with ⟨rfl, rfl, rfl, rfl, rfl, rfl⟩ | ⟨rfl, rfl, rfl, rfl, rfl, rfl⟩ | ⟨rfl, rfl, rfl, rfl, rfl, rfl⟩
  · go_enter Tryd.func79, Tryd.ntmps79
    go_wp2_with fail
    exact bodyPost_ret (v := .agg #[.int .i64 10, .int .i64 (-24), .int .i64 31]) (by simp [results, Tryd.results79, go_sem]) rfl ⟨rfl, (Below.refl _ _).alloc (Nat.le_refl _) _⟩
  · go_enter Tryd.func79, Tryd.ntmps79
    go_wp2_with fail
    exact bodyPost_ret (v := .agg #[.int .i64 23, .int .i64 (-149), .int .i64 255]) (by simp [results, Tryd.results79, go_sem]) rfl ⟨rfl, (Below.refl _ _).alloc (Nat.le_refl _) _⟩
  · go_enter Tryd.func79, Tryd.ntmps79
    go_wp2_with fail
    exact bodyPost_ret (v := .agg #[.int .i64 52, .int .i64 (-1074), .int .i64 2047]) (by simp [results, Tryd.results79, go_sem]) rfl ⟨rfl, (Below.refl _ _).alloc (Nat.le_refl _) _⟩

theorem two_step (k n : Nat) (h : k < n) (hn : n ≤ 63) : IntKind.u64.wrap (2 * ((2 ^ k : Nat) : Int)) = ((2 ^ (k + 1) : Nat) : Int) := by
  have h1 : 2 ^ (k + 1) ≤ 2 ^ 63 := Nat.pow_le_pow_right (by decide) (by omega)
  have e : (2 * ((2 ^ k : Nat) : Int)) = ((2 ^ (k + 1) : Nat) : Int) := by rw [Nat.pow_succ]; omega
  have h2 : (2 : Nat) ^ 63 = 9223372036854775808 := by decide
  rw [e, u64_wrap]
  generalize 2 ^ (k + 1) = p at *
  omega
theorem two_ref (n : Nat) (hn : n ≤ 63) (w : World) : Calls Tryd.prog 80 #[.int .i64 n] w fun e w' => e = .returned (.int .u64 ((2 ^ n : Nat) : Int)) ∧ w' = w := by
  go_enter Tryd.func80, Tryd.ntmps80
  go_wp2_with fail
  go_loop [3, 4] (fun v i => ∃ k : Nat, k ≤ n ∧ v = .int .u64 ((2 ^ k : Nat) : Int) ∧ i = .int .i64 k) (fun _ i => n - (RowKit.intOf i).toNat)
  case atStart => exact ⟨0, Nat.zero_le _, rfl, rfl⟩
  case round =>
    obtain ⟨k, hk, rfl, rfl⟩ := hrel
    by_cases hlt : k < n
    · have hltI : (k : Int) < (n : Int) := by omega
      have h1 := two_step k n hlt hn
      generalize 2 ^ k = p at *
      generalize hq : 2 ^ (k + 1) = q at *
      have HQ := Lib.hid hq
      clear hq
      go_wp2_with fail
      go_round
      case rel => exact ⟨k + 1, hlt, by rw [HQ.out], by go_num⟩
      case measure => simp [RowKit.intOf]; omega
    · obtain rfl : k = n := by omega
      go_wp2_with fail
      go_ret
      exact ⟨rfl, rfl⟩
theorem sign_ref (n : Nat) (h1 : 1 ≤ n) (hn : n ≤ 64) (w : World) : Calls Tryd.prog 43 #[.int .i64 n] w fun e w' => e = .returned (.int .u64 ((2 ^ (n - 1) : Nat) : Int)) ∧ w' = w := by
  go_enter Tryd.func43, Tryd.ntmps43
  go_wp2_with fail
  go_loop [3, 4] (fun v i => ∃ k : Nat, k + 1 ≤ n ∧ v = .int .u64 ((2 ^ k : Nat) : Int) ∧ i = .int .i64 ((k + 1 : Nat) : Int)) (fun _ i => n - (RowKit.intOf i).toNat)
  case atStart => exact ⟨0, by omega, rfl, rfl⟩
  case round =>
    obtain ⟨k, hk, rfl, rfl⟩ := hrel
    by_cases hlt : k + 1 < n
    · have hltI : ((k + 1 : Nat) : Int) < (n : Int) := by omega
      have h1 := two_step k (n - 1) (by omega) (by omega)
      generalize 2 ^ k = p at *
      generalize hq : 2 ^ (k + 1) = q at *
      have HQ := Lib.hid hq
      clear hq
      go_wp2_with fail
      go_round
      case rel => exact ⟨k + 1, hlt, by rw [HQ.out], by go_num⟩
      case measure => simp [RowKit.intOf]; omega
    · obtain rfl : n = k + 1 := by omega
      go_wp2_with fail
      go_ret
      exact ⟨rfl, rfl⟩
theorem wsign_ref {b : Int} {f l T S I : Nat} (h : Wid b f l T S I) (w : World) : Calls Tryd.prog 43 #[.int .i64 b] w fun e w' => e = .returned (.int .u64 S) ∧ w' = w := by
  obtain ⟨-, -, -, -, -, -, -, -, h1, h2, h3, -⟩ := h.facts
  have := sign_ref b.toNat (by omega) (by omega) w
  rwa [h3, show ((b.toNat : Nat) : Int) = b by omega] at this
theorem field_run0 (x y z : Value) (w : World) : (Instr.field 116 (.agg #[x, y, z]) 0).run Tryd.prog w = .ok x w := by kernel_rfl
theorem field_run2 (x y z : Value) (w : World) : (Instr.field 116 (.agg #[x, y, z]) 2).run Tryd.prog w = .ok z w := by kernel_rfl
theorem rett {k1 k2 : IntKind} {a b c d : Int} (h1 : a = b) (h2 : c = d) : Ending.returned (.tuple #[.int k1 a, .int k2 c]) = .returned (.tuple #[.int k1 b, .int k2 d]) := by rw [h1, h2]
attribute [local go_sem] field_run0 field_run2
set_option maxRecDepth 100000 in
theorem winf_ref {b : Int} {f l T S I : Nat} (h : Wid b f l T S I) (w : World) : Calls Tryd.prog 44 #[.int .i64 b] w fun e w' => e = .returned (.int .u64 I) ∧ Below w.heap.size w w' := by
  obtain ⟨h1, h2, h3, h4, h5, h6, h7, h8, -⟩ := h.facts
  have HO := Lib.hid (fun wx => of_ref h wx)
  have HT := Lib.hid (fun wx => two_ref f (by omega) wx)
  have hTw : IntKind.u64.wrap (T : Int) = (T : Int) := by rw [u64_wrap]; omega
  have e1 : (T : Int) * ((2 ^ f : Nat) : Int) = (I : Int) := by rw [← Int.natCast_mul, h6]
  have hIw : IntKind.u64.wrap (I : Int) = (I : Int) := by rw [u64_wrap]; omega
  generalize ((2 ^ f : Nat) : Int) = P at *
  clear h h1 h2 h3 h4 h5 h6 h7 h8
  go_enter Tryd.func44, Tryd.ntmps44
  go_wp2_with fail
  refine (HO.out _).mono ?_
  rintro e w1 ⟨rfl, hb1⟩
  have HB1 := Lib.hid hb1
  clear hb1
  go_wp2_with fail
  refine (HO.out _).mono ?_
  rintro e w2 ⟨rfl, hb2⟩
  have HB2 := Lib.hid (HB1.out.trans (hb2.mono HB1.out.size))
  clear hb2
  go_wp2_with fail
  refine (HT.out _).mono ?_
  rintro e w3 ⟨rfl, hw3⟩
  subst hw3
  go_wp2_with fail
  go_ret
  exact ⟨rfl, HB2.out⟩
theorem neg_ref {b : Int} {f l T S I : Nat} (h : Wid b f l T S I) (x : Nat) (w : World) : Calls Tryd.prog 72 #[.int .i64 b, .int .u64 x] w fun e w' => e = .returned (.bool (decide (S ≤ x))) ∧ w' = w := by
  have HS := Lib.hid (fun wx => wsign_ref h wx)
  clear h
  go_enter Tryd.func72, Tryd.ntmps72
  go_wp2_with fail
  refine (HS.out _).mono ?_
  rintro e w1 ⟨rfl, hw1⟩
  subst hw1
  go_wp2_with fail
  go_ret
  exact ⟨rfl, rfl⟩
theorem size_ref {b : Int} {f l T S I : Nat} (h : Wid b f l T S I) (x : Nat) (hx : x < 2 * S) (w : World) : Calls Tryd.prog 70 #[.int .i64 b, .int .u64 x] w fun e w' => e = .returned (.int .u64 ((x % S : Nat) : Int)) ∧ w' = w := by
  have HS := Lib.hid (fun wx => wsign_ref h wx)
  have HN := Lib.hid (fun wx => neg_ref h x wx)
  obtain ⟨-, -, -, -, -, -, h7, h8, -⟩ := h.facts
  clear h
  by_cases hs : S ≤ x
  · have hd := decide_eq_true hs
    have hm : x % S = x - S := by rw [Nat.mod_eq_sub_mod hs, Nat.mod_eq_of_lt (by omega)]
    have hw : IntKind.u64.wrap ((x : Int) - S) = ((x - S : Nat) : Int) := by rw [show (x : Int) - S = ((x - S : Nat) : Int) by omega, u64_wrap]; omega
    rw [hm]
    rw [hd] at HN
    generalize x - S = y at *
    clear hs hd hm h7 h8 hx
    go_enter Tryd.func70, Tryd.ntmps70
    go_wp2_with fail
    refine (HN.out _).mono ?_
    rintro e w1 ⟨rfl, hw1⟩
    subst hw1
    go_wp2_with fail
    refine (HS.out _).mono ?_
    rintro e w1 ⟨rfl, hw1⟩
    subst hw1
    go_wp2_with fail
    go_ret
    exact ⟨rfl, rfl⟩
  · have hd := decide_eq_false hs
    rw [Nat.mod_eq_of_lt (by omega)]
    rw [hd] at HN
    clear hs hd h7 h8 hx
    go_enter Tryd.func70, Tryd.ntmps70
    go_wp2_with fail
    refine (HN.out _).mono ?_
    rintro e w1 ⟨rfl, hw1⟩
    subst hw1
    go_wp2_with fail
    go_ret
    exact ⟨rfl, rfl⟩
/-- what Number tells -/
def NumPost (f l sz : Nat) (w : World) (e : Ending) (w' : World) : Prop :=
  ∃ c k : Nat, e = .returned (.tuple #[.int .u64 c, .int .i64 ((k : Int) - (l : Int))]) ∧ Below w.heap.size w w' ∧ pv f sz = c * 2 ^ k ∧ c < 2 ^ (f + 1) ∧ (c < 2 ^ f → k = 0) ∧ sz = k * 2 ^ f + c
set_option maxRecDepth 100000 in
theorem number_ref {b : Int} {f l T S I : Nat} (h : Wid b f l T S I) (sz : Nat) (hs : sz ≤ I) (w : World) : Calls Tryd.prog 71 #[.int .i64 b, .int .u64 sz] w (NumPost f l sz w) := by
  obtain ⟨h1, h2, h3, h4, h5, h6, h7, h8, -⟩ := h.facts
  have HO := Lib.hid (fun wx => of_ref h wx)
  have HT := Lib.hid (fun wx => two_ref f (by omega) wx)
  have hF := Nat.two_pow_pos f
  have hF1 : 2 ^ (f + 1) = 2 * 2 ^ f := by rw [Nat.pow_succ]; omega
  have HPV := Lib.hid (fun k c => pv_of f k c)
  rw [show (2 : Nat) ^ (f + 1) = 2 * 2 ^ f from hF1] at HPV
  unfold NumPost
  rw [hF1]
  generalize 2 ^ f = F at *
  clear hF1 h
  go_enter Tryd.func71, Tryd.ntmps71
  go_wp2_with fail
  refine (HO.out _).mono ?_
  rintro e w1 ⟨rfl, hb1⟩
  have HB1 := Lib.hid hb1
  have hbk := Blk.new w1 116 #[.int .i64 (f : Int), .int .i64 (-(l : Int)), .int .i64 (T : Int)]
  have HC1 : Hid (Cells3 (w1.alloc (.cells #[.int .i64 (f : Int), .int .i64 (-(l : Int)), .int .i64 (T : Int)] 116)) w1.heap.size f (-(l : Int)) T) := Lib.hid ⟨by rw [hbk.cell 0] <;> rfl, by rw [hbk.cell 1] <;> rfl, by rw [hbk.cell 2] <;> rfl⟩
  have HB2 : Hid (Below w.heap.size w (w1.alloc (.cells #[.int .i64 (f : Int), .int .i64 (-(l : Int)), .int .i64 (T : Int)] 116))) := Lib.hid (hb1.alloc hb1.size _)
  clear hb1 hbk
  obtain ⟨c0, c1, c2⟩ := HC1.out
  go_wp2_with fail
  refine (HT.out _).mono ?_
  rintro e w2 ⟨rfl, hw2⟩
  subst hw2
  by_cases hlt : sz < F
  · have hltI : (sz : Int) < (F : Int) := by omega
    clear h3 h4 h5 h6 h7 h8
    go_wp2_with fail
    go_quiet (fail)
    go_wp2_with fail
    go_ret2
    have hpv := HPV.out 0 sz (by omega) (fun _ => rfl)
    rw [Nat.zero_mul, Nat.zero_add] at hpv
    exact ⟨sz, 0, by simp, by first | exact HB2.out | exact below_drewN' HB2.out _, hpv, by omega, fun _ => rfl, by omega⟩
  · have hltI : ¬ (sz : Int) < (F : Int) := by omega
    have hm : sz % F < F := Nat.mod_lt _ hF
    have hdm := Nat.div_add_mod sz F
    have hq1 : 1 ≤ sz / F := Nat.div_pos (by omega) hF
    have hq2 : sz / F ≤ 4294967296 := by
      rcases Nat.lt_or_ge 4294967296 (sz / F) with g | g
      · exfalso
        have e1 : 2048 ≤ sz / F := by omega
        have e2 : F * 2048 ≤ F * (sz / F) := Nat.mul_le_mul_left _ e1
        have e3 : T * F ≤ 2047 * F := Nat.mul_le_mul_right _ h3
        omega
      · exact g
    have i1 : (sz : Int).tmod (F : Int) = ((sz % F : Nat) : Int) := by rw [Int.tmod_eq_emod_of_nonneg (by omega)]; rfl
    have i2 : (sz : Int).tdiv (F : Int) = ((sz / F : Nat) : Int) := by rw [Int.tdiv_eq_ediv_of_nonneg (by omega)]; rfl
    have i1' : (sz : Int) % (F : Int) = ((sz % F : Nat) : Int) := rfl
    have i2' : (sz : Int) / (F : Int) = ((sz / F : Nat) : Int) := rfl
    have HD := Lib.hid hdm
    have i3 : IntKind.u64.wrap ((F : Int) + ((sz % F : Nat) : Int)) = ((F + sz % F : Nat) : Int) := by rw [show (F : Int) + ((sz % F : Nat) : Int) = ((F + sz % F : Nat) : Int) by omega, u64_wrap]; omega
    have i4 : IntKind.u64.wrap ((sz % F : Nat) : Int) = ((sz % F : Nat) : Int) := by rw [u64_wrap]; omega
    have i5 : IntKind.u64.wrap ((sz / F : Nat) : Int) = ((sz / F : Nat) : Int) := by rw [u64_wrap]; omega
    have i6 : IntKind.i64.wrap ((sz / F : Nat) : Int) = ((sz / F : Nat) : Int) := IntWalk.i64_in _ (by omega)
    have i7 : IntKind.i64.wrap (-(l : Int) - 1) = -(l : Int) - 1 := IntWalk.i64_in _ (by omega)
    have i8 : IntKind.i64.wrap (-(l : Int) - 1 + ((sz / F : Nat) : Int)) = -(l : Int) - 1 + ((sz / F : Nat) : Int) := IntWalk.i64_in _ (by omega)
    have hFne : ((F : Int) == 0) = false := by rw [beq_eq_false_iff_ne]; omega
    have hFnz : ¬ (F : Int) = 0 := by omega
    generalize sz % F = r at *
    generalize sz / F = q at *
    have HR : Hid (r < F ∧ 1 ≤ q) := Lib.hid ⟨hm, hq1⟩
    clear h3 h4 h5 h6 h7 h8 hm hdm hq1 hq2 hlt
    go_wp2_with fail
    go_quiet (fail)
    go_wp2_with fail
    go_ret2
    have hr := HR.out
    have hd := HD.out
    obtain ⟨k, rfl⟩ : ∃ k, q = k + 1 := ⟨q - 1, by omega⟩
    have e1 : sz = k * F + (F + r) := by rw [← hd, Nat.mul_comm F, Nat.add_mul]; omega
    have hpv := HPV.out k (F + r) (by omega) (fun h => by omega)
    rw [← e1] at hpv
    exact ⟨F + r, k, rett rfl (by omega), by first | exact HB2.out | exact below_drewN' HB2.out _, hpv, by omega, fun h => by omega, e1⟩
def PrRel (v8 v9 : Value) (l c k : Nat) : Prop := ∃ m t : Nat, v8 = .int .u64 m ∧ v9 = .int .i64 ((k : Int) + t - (l : Int)) ∧ 0 < m ∧ m * 2 ^ t = c ∧ t ≤ 60 ∧ m ≤ c
theorem pr_step (m t c : Nat) (h0 : 0 < m) (h : m * 2 ^ t = c) (hc : c < 9007199254740993) (he : m % 2 = 0) : 0 < m / 2 ∧ m / 2 * 2 ^ (t + 1) = c ∧ t + 1 ≤ 60 ∧ m / 2 ≤ c := by
  have e : m / 2 * 2 ^ (t + 1) = c := by
    rw [Nat.pow_succ, Nat.mul_comm (2 ^ t), ← Nat.mul_assoc, show m / 2 * 2 = m by omega, h]
  refine ⟨by omega, e, ?_, ?_⟩
  · rcases Nat.lt_or_ge 60 (t + 1) with g | g
    · exfalso
      have h1 : (2 : Nat) ^ 60 ≤ 2 ^ (t + 1) := Nat.pow_le_pow_right (by decide) (by omega)
      have h2 : 1 * 2 ^ (t + 1) ≤ m / 2 * 2 ^ (t + 1) := Nat.mul_le_mul_right _ (by omega)
      have h3 : (2 : Nat) ^ 60 = 1152921504606846976 := by decide
      generalize 2 ^ (t + 1) = p at *
      generalize m / 2 * p = q at *
      omega
    · exact g
  · rw [← e]
    exact Nat.le_mul_of_pos_right _ (Nat.two_pow_pos _)
set_option maxRecDepth 100000 in
theorem parts_ref {b : Int} {f l T S I : Nat} (h : Wid b f l T S I) (x : Nat) (hx : x < 2 * S) (w : World) : Calls Tryd.prog 37 #[.int .i64 b, .int .u64 x] w (PartsPost f l I (decide (S ≤ x)) (x % S) w) := by
  obtain ⟨h1, h2, h3, h4, h5, h6, h7, h8, -⟩ := h.facts
  have HZ := Lib.hid (fun wx => size_ref h x hx wx)
  have HN := Lib.hid (fun wx => neg_ref h x wx)
  have HI := Lib.hid (fun wx => winf_ref h wx)
  have HNM := Lib.hid (fun sz hs wx => number_ref h sz hs wx)
  generalize hsz : x % S = sz at *
  generalize decide (S ≤ x) = neg at *
  clear hsz hx
  have hF1 : 2 ^ (f + 1) = 2 * 2 ^ f := by rw [Nat.pow_succ]; omega
  have hF := Nat.two_pow_pos f
  unfold PartsPost
  go_enter Tryd.func37, Tryd.ntmps37
  go_wp2_with fail
  refine (HZ.out _).mono ?_
  rintro e w1 ⟨rfl, hw1⟩
  subst hw1
  go_wp2_with fail
  refine (HI.out _).mono ?_
  rintro e w1 ⟨rfl, hb1⟩
  have HB1 := Lib.hid hb1
  clear hb1
  by_cases hi : I ≤ sz
  · have hiI : (I : Int) ≤ (sz : Int) := by omega
    have HH := Lib.hid hi
    clear hi h1 h2 h3 h4 h5 h6 h7 h8
    go_wp2_with fail
    exact bodyPost_ret (v := .tuple #[.bool false, .int .u64 0, .int .i64 0, .bool false]) (by simp [results, Tryd.results37, go_sem]) rfl ⟨HB1.out, .inl ⟨HH.out, rfl⟩⟩
  · have hiI : ¬ (I : Int) ≤ (sz : Int) := by omega
    have HH := Lib.hid hi
    have HIS := Lib.hid (show sz < I by omega)
    have HNS := Lib.hid (fun wx => HNM.out sz (by omega) wx)
    have HFC := Lib.hid (show T ≤ 2047 ∧ 2 ^ f ≤ 4503599627370496 ∧ T * 2 ^ f = I ∧ 0 < 2 ^ f ∧ 2 ^ (f + 1) = 2 * 2 ^ f from ⟨h3, h5, h6, hF, hF1⟩)
    clear hi h3 h4 h5 h6 h7 h8 hF hF1 HNM
    go_wp2_with fail
    refine (HZ.out _).mono ?_
    rintro e w2 ⟨rfl, hw2⟩
    subst hw2
    go_wp2_with fail
    refine (HNS.out _).mono ?_
    rintro e w2 ⟨c, k, rfl, hb2, hpv, hc, hck, hkc⟩
    have HB2 := Lib.hid (HB1.out.trans (hb2.mono HB1.out.size))
    obtain ⟨g1, g2, g3, g4, g5⟩ := HFC.out
    have hk : k < 2048 := by
      rcases Nat.lt_or_ge k 2048 with g | g
      · exact g
      · exfalso
        have e1 : 2048 * 2 ^ f ≤ k * 2 ^ f := Nat.mul_le_mul_right _ g
        have e2 : T * 2 ^ f ≤ 2047 * 2 ^ f := Nat.mul_le_mul_right _ g1
        have e3 := HIS.out
        omega
    have hc2 : c < 9007199254740993 := by omega
    have HPV := Lib.hid hpv
    have HZC : Hid (sz = 0 ↔ c = 0) := Lib.hid (by
      constructor
      · intro e
        rw [e, pv_zero] at hpv
        rcases Nat.mul_eq_zero.1 hpv.symm with g | g
        · exact g
        · have := Nat.two_pow_pos k; omega
      · intro e
        rw [e] at hck hkc
        rw [hck g4] at hkc
        omega)
    clear g1 g2 g3 g4 g5 hpv hc hck hkc hb2 HB1 HNS HZ HI
    by_cases hc0 : c = 0
    · subst hc0
      go_wp2_with fail
      refine (HN.out _).mono ?_
      rintro e w3 ⟨rfl, hw3⟩
      subst hw3
      go_wp2_with fail
      exact bodyPost_ret (v := .tuple #[.bool neg, .int .u64 0, .int .i64 0, .bool true]) (by simp [results, Tryd.results37, go_sem]) rfl ⟨HB2.out, .inr (.inl ⟨HZC.out.2 (by first | rfl | trivial), rfl⟩)⟩
    · have hc0I : ((c : Int) == 0) = false := by rw [beq_eq_false_iff_ne]; omega
      go_wp2_with fail
      go_loop [8, 9] (fun v8 v9 => PrRel v8 v9 l c k) (fun v8 _ => (RowKit.intOf v8).toNat)
      case atStart => exact ⟨c, 0, rfl, by first | rfl | (congr 1; omega), by omega, by simp, by omega, Nat.le_refl _⟩
      case round =>
        obtain ⟨m, t, rfl, rfl, hm0, hmt, ht, hmc⟩ := hrel
        have HMT := Lib.hid hmt
        have hm2 := Nat.mod_two_eq_zero_or_one m
        have i1 : (m : Int) % 2 = ((m % 2 : Nat) : Int) := rfl
        have i2 : (m : Int) / 2 = ((m / 2 : Nat) : Int) := rfl
        have i3 : (m : Int).tmod 2 = ((m % 2 : Nat) : Int) := by rw [Int.tmod_eq_emod_of_nonneg (by omega)]; rfl
        have i4 : (m : Int).tdiv 2 = ((m / 2 : Nat) : Int) := by rw [Int.tdiv_eq_ediv_of_nonneg (by omega)]; rfl
        clear hmt
        rcases hm2 with hm2 | hm2
        · have HS := Lib.hid (pr_step m t c hm0 HMT.out hc2 hm2)
          rw [hm2] at i1 i3
          have hlt : m / 2 < m := by omega
          generalize m / 2 = y at *
          have hy : IntKind.u64.wrap (y : Int) = (y : Int) := by rw [u64_wrap]; omega
          clear hm2
          go_wp2_with fail
          go_round
          case rel => exact ⟨y, t + 1, by first | rfl | rw [hy], by congr 1; omega, HS.out.1, HS.out.2.1, HS.out.2.2.1, HS.out.2.2.2⟩
          case measure => simp [RowKit.intOf]; omega
        · rw [hm2] at i1 i3
          have HU : Hid (∃ u, m = 2 * u + 1) := Lib.hid ⟨m / 2, by omega⟩
          clear hm2
          go_wp2_with fail
          refine (HN.out _).mono ?_
          rintro e w3 ⟨rfl, hw3⟩
          subst hw3
          go_wp2_with fail
          obtain ⟨u, hu⟩ := HU.out
          subst hu
          exact bodyPost_ret (v := .tuple #[.bool neg, .int .u64 ((2 * u + 1 : Nat) : Int), .int .i64 (((k + t : Nat) : Int) - (l : Int)), .bool true]) (by simp [results, Tryd.results37, go_sem]; try omega) rfl ⟨HB2.out, .inr (.inr ⟨HIS.out, fun h => hc0 (HZC.out.1 h), u, k + t, rfl, by rw [HPV.out, Nat.pow_add, Nat.mul_comm (2 ^ k), ← Nat.mul_assoc, HMT.out]⟩)⟩
end Go.Proofs.YtgckfilmhnapeaaDoor
