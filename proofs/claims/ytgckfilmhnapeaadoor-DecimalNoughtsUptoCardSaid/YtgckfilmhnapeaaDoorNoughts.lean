/- The law DecimalNoughts. -/
import Derived.Test.YtgckfilmhnapeaaDoorLv
import Derived.Test.YtgckfilmhnapeaaDoorTl
import Derived.Test.YtgckfilmhnapeaaDoorNo
import Derived.Deep.DeepCutAuto
namespace Go.Proofs.YtgckfilmhnapeaaDoor
open Go.RowKit Go.Lib Go.ChangeShapes
set_option linter.unusedVariables false

theorem width_cases (u : Int) : (wB u = 32 ∧ wS u = 2147483648) ∨ (wB u = 64 ∧ wS u = 9223372036854775808) ∨ (wB u = 16 ∧ wS u = 32768) := by
  unfold wB wS
  repeat' split
  all_goals simp

set_option maxRecDepth 100000 in
set_option maxHeartbeats 4000000 in
theorem wnoughts (u : Int) (hu : (Lit.int .u8 u).wf = true) (neg : Bool) (s : ByteArray) (p : Int) (hs : s.size ≤ 1048576) (hp : (Lit.int .i64 p).wf = true) (a b : Int) (hwa : (Lit.int .u8 a).wf = true) (hwb : (Lit.int .u8 b).wf = true) (w : World)
    (hL : laidMetH Tryd.prog Rows.decimalNoughtsUptoRow.laid w) :
    Calls Tryd.prog 6 #[.int .u8 u, .agg #[.bool neg, .string s, .int .i64 p], .int .u8 a, .int .u8 b] w fun e w' => e = .returned (.bool true) ∧ Below w.heap.size w w' := by
  have hT : Tabs w := tabs_of_list hL
  have hmin : IntKind.i64.min = -9223372036854775808 := rfl
  have hmax : IntKind.i64.max = 9223372036854775807 := rfl
  have hmin8 : IntKind.u8.min = 0 := rfl
  have hmax8 : IntKind.u8.max = 255 := rfl
  simp only [Lit.wf, Bool.and_eq_true, decide_eq_true_eq, hmin, hmax, hmin8, hmax8] at hu hp hwa hwb
  obtain ⟨a, rfl⟩ : ∃ n : Nat, a = n := ⟨a.toNat, by omega⟩
  obtain ⟨b, rfl⟩ : ∃ n : Nat, b = n := ⟨b.toNat, by omega⟩
  have HB0 : Hid (Below w.heap.size w (w.alloc (.cells #[.bool neg, .string s, .int .i64 p] 23))) := Lib.hid ((Below.refl w.heap.size w).alloc (Nat.le_refl _) _)
  have H0 := Lib.hid (dgC_new w neg s p 23)
  have HLV := Lib.hid (lives7_any _ (hT.below HB0.out))
  have HT := Lib.hid (fun wx (h : Below w.heap.size w wx) => hT.below h)
  have HNA := Lib.hid (fun wx => noughts_any a (by omega) wx)
  have HNB := Lib.hid (fun wx => noughts_any b (by omega) wx)
  by_cases hbig : 4611686018427387904 < p
  · clear hmin hmax hmin8 hmax8 hu hp hwa hwb hL hT hs HNA HNB HT
    go_enter Tryd.func6, Tryd.ntmps6
    go_wp2_with fail
    refine HLV.out.mono ?_
    rintro e w1 ⟨rfl, hb1⟩
    have HB1 := Lib.hid (HB0.out.trans (hb1.mono HB0.out.size))
    have H1 := Lib.hid (H0.out.below hb1)
    clear hb1 HB0 H0 HLV
    have c0 := H1.out.c0
    have c1 := H1.out.c1
    have c2 := H1.out.c2
    go_wp2_with fail
    go_ret
    exact ⟨rfl, HB1.out⟩
  · have HR1 := Lib.hid (fun wx (h : Below w.heap.size w wx) => lread_any u hu.1 hu.2 neg s p wx (HT.out wx h) (by omega) hp.1 hp.2)
    have HR2 := Lib.hid (fun wx (h : Below w.heap.size w wx) => lread_any u hu.1 hu.2 neg (longS s a b) (p + a) wx (HT.out wx h) (by rw [long_size]; omega) (by omega) (by omega))
    have HR3 := Lib.hid (fun wx (h : Below w.heap.size w wx) => lread_any u hu.1 hu.2 (!neg) s p wx (HT.out wx h) (by omega) hp.1 hp.2)
    have HCM := Lib.hid (fun wx => dcmp_any neg neg s (longS s a b) p (p + a) wx hp.1 (by omega) (by omega) hp.2 (by omega) (by rw [long_size]; omega))
    obtain ⟨q1, q2⟩ := long_cmp neg s p a b hs (by omega) (by omega)
    rw [q1, q2] at HCM
    have hlf := long_fine s a b
    have HWD := Lib.hid (fun wx => width_any u hu.1 wx)
    have hwr : IntKind.i64.wrap (p + a) = p + a := by simp only [IntKind.wrap]; simp [IntKind.signed, IntKind.bits]; omega
    have HLR := Lib.hid (fun x y => @long_read (wF u) (wL u) (wW u) (wS u) neg s p x y a b)
    have HTR := Lib.hid (fun x z => @turn_read (wF u) (wL u) (wW u) (wS u) neg s p x z)
    have HLS : Hid (nz a ++ s ++ nz b = longS s a b) := Lib.hid rfl
    have ha0 : (0 : Int) ≤ (a : Int) := by omega
    have ha1 : (a : Int) ≤ 255 := by omega
    have hb0 : (0 : Int) ≤ (b : Int) := by omega
    have hb1' : (b : Int) ≤ 255 := by omega
    have hwa64 : IntKind.i64.wrap (a : Int) = a := by simp only [IntKind.wrap]; simp [IntKind.signed, IntKind.bits]; omega
    have hwb64 : IntKind.i64.wrap (b : Int) = b := by simp only [IntKind.wrap]; simp [IntKind.signed, IntKind.bits]; omega
    clear hmin hmax hmin8 hmax8 hu hp hwa hwb hL hT HT q1 q2
    go_enter Tryd.func6, Tryd.ntmps6
    go_wp2_with fail
    refine HLV.out.mono ?_
    rintro e w1 ⟨rfl, hb1⟩
    have HB1 := Lib.hid (HB0.out.trans (hb1.mono HB0.out.size))
    have H1 := Lib.hid (H0.out.below hb1)
    clear hb1 HB0 H0 HLV
    have c0 := H1.out.c0
    have c1 := H1.out.c1
    have c2 := H1.out.c2
    go_upto_region 5 with fail
    have HBD : Hid (Below w.heap.size w w1.drew) := Lib.hid (below_drewN' HB1.out 1)
    have HBD1 : Hid (Below w1.heap.size w1 w1.drew) := Lib.hid (below_drewN' (Below.refl _ _) 1)
    have HD : Hid (DgC w1.drew w.heap.size neg s p) := Lib.hid (H1.out.below HBD1.out)
    have HDA : Hid (∀ o, DgC (w1.drew.alloc o) w.heap.size neg s p) := Lib.hid (fun o => HD.out.below ((Below.refl _ _).alloc (Nat.le_refl _) _))
    have hcat1 : ¬ (9223372036854775807 < (nz a).size + s.size) := by rw [nz_size]; omega
    have hcat3 : ¬ (9223372036854775807 < (nz a).size + s.size + (nz b).size) := by rw [nz_size, nz_size]; omega
    clear hs
    go_cut [9] (fun v9 wx => v9 = .pointer (some ⟨w1.heap.size, 0, none⟩) ∧ wx = (w1.alloc (.cells #[.bool neg, .string (nz a ++ s ++ nz b), .int .i64 (p + a)] 23)).drew)
    case first =>
      go_region_held3 (fun w' => w'.cell? ⟨w.heap.size, 0, none⟩ = some (.bool neg) ∧ w'.cell? ⟨w.heap.size, 1, none⟩ = some (.string s) ∧ w'.cell? ⟨w.heap.size, 2, none⟩ = some (.int .i64 p))
        (first
          | exact ⟨c0, c1, c2⟩
          | exact ⟨(HDA.out _).c0, (HDA.out _).c1, (HDA.out _).c2⟩)
        (first
          | (go_at_call 19; (with_reducible refine (HNA.out _).mono ?_); rintro e wa ⟨rfl, rfl⟩)
          | (go_at_call 19; (with_reducible refine (HNB.out _).mono ?_); rintro e wa ⟨rfl, rfl⟩))
      all_goals
        go_wp2_with fail
        go_meet
        case rel => exact ⟨rfl, rfl⟩
    case rest =>
      obtain ⟨rfl, rfl⟩ := hcut
      have al : ∀ (wx : World) (o : Obj), Below wx.heap.size wx (wx.alloc o) := fun wx o => (Below.refl _ _).alloc (Nat.le_refl _) _
      have dr : ∀ (wx : World), Below wx.heap.size wx wx.drew := fun wx => below_drewN' (Below.refl _ _) 1
      have HL0 := Lib.hid ((dgC_new w1 neg (nz a ++ s ++ nz b) (p + a) 23).below (dr _))
      have HS0 := Lib.hid ((H1.out.below (al w1 (.cells #[.bool neg, .string (nz a ++ s ++ nz b), .int .i64 (p + a)] 23))).below (dr _))
      have HB2 := Lib.hid ((HB1.out.trans ((al w1 (.cells #[.bool neg, .string (nz a ++ s ++ nz b), .int .i64 (p + a)] 23)).mono HB1.out.size)).trans ((dr _).mono (Nat.le_trans HB1.out.size (al w1 _).size)))
      rw [HLS.out] at HL0 HS0 HB2 ⊢
      generalize hb1 : w1.heap.size = bl at *
      generalize (w1.alloc (.cells #[.bool neg, .string (longS s a b), .int .i64 (p + a)] 23)).drew = w2 at *
      clear hb1 c0 c1 c2 HBD HBD1 HD HDA hcat1 hcat3 HNA HNB hwr hwa64 hwb64 ha0 ha1 hb0 hb1' H1 HB1 HLS hbig
      have c0 := HS0.out.c0
      have c1 := HS0.out.c1
      have c2 := HS0.out.c2
      go_upto_region 7 with fail
      have HO0 := Lib.hid (dgC_new w2 (!neg) s p 23)
      have HS3 := Lib.hid (HS0.out.below (al w2 (.cells #[.bool (!neg), .string s, .int .i64 p] 23)))
      have HL3 := Lib.hid (HL0.out.below (al w2 (.cells #[.bool (!neg), .string s, .int .i64 p] 23)))
      have HB3 := Lib.hid (HB2.out.trans ((al w2 (.cells #[.bool (!neg), .string s, .int .i64 p] 23)).mono HB2.out.size))
      clear c0 c1 c2 HS0 HL0 HB2
      generalize w2.alloc (.cells #[.bool (!neg), .string s, .int .i64 p] 23) = w3 at *
      generalize w2.heap.size = bo at *
      have c0 := HS3.out.c0
      have c1 := HS3.out.c1
      have c2 := HS3.out.c2
      go_wp2_with fail
      refine (HR1.out _ HB3.out).mono ?_
      rintro e w4 ⟨x, rfl, hb, hx⟩
      have HX := Lib.hid hx
      have HO4 := Lib.hid (HO0.out.below hb)
      have HS4 := Lib.hid (HS3.out.below hb)
      have HL4 := Lib.hid (HL3.out.below hb)
      have HB4 := Lib.hid (HB3.out.trans (hb.mono HB3.out.size))
      clear hb hx HR1 HB3 HL3 HS3 HO0 c0 c1 c2
      have c0 := HL4.out.c0
      have c1 := HL4.out.c1
      have c2 := HL4.out.c2
      go_wp2_with fail
      refine (HR2.out _ HB4.out).mono ?_
      rintro e w5 ⟨y, rfl, hb, hy⟩
      have hxy := HLR.out x y HX.out hy
      subst hxy
      have HO5 := Lib.hid (HO4.out.below hb)
      have HS5 := Lib.hid (HS4.out.below hb)
      have HL5 := Lib.hid (HL4.out.below hb)
      have HB5 := Lib.hid (HB4.out.trans (hb.mono HB4.out.size))
      clear hb hy HR2 HB4 HL4 HS4 HO4 HLR c0 c1 c2
      have c0 := HO5.out.c0
      have c1 := HO5.out.c1
      have c2 := HO5.out.c2
      go_wp2_with fail
      refine (HR3.out _ HB5.out).mono ?_
      rintro e w6 ⟨z, rfl, hb, hz⟩
      obtain ⟨t1, t2, t3⟩ := HTR.out x z HX.out hz
      have HT1 := Lib.hid t1
      have HT2 := Lib.hid t2
      have HT3 := Lib.hid t3
      have HS6 := Lib.hid (HS5.out.below hb)
      have HL6 := Lib.hid (HL5.out.below hb)
      have HB6 := Lib.hid (HB5.out.trans (hb.mono HB5.out.size))
      clear hb hz t1 t2 t3 HR3 HB5 HL5 HS5 HO5 HTR HX c0 c1 c2
      have c0 := HS6.out.c0
      have c1 := HS6.out.c1
      have c2 := HS6.out.c2
      have d0 := HL6.out.c0
      have d1 := HL6.out.c1
      have d2 := HL6.out.c2
      clear hlf
      generalize fineB s = F at *
      go_wp2_with fail
      refine (HCM.out _).mono ?_
      rintro e w7 ⟨rfl, hb⟩
      have HS7 := Lib.hid (HS6.out.below hb)
      have HB7 := Lib.hid (HB6.out.trans (hb.mono HB6.out.size))
      clear hb HCM HB6 HL6 HS6 c0 c1 c2 d0 d1 d2
      cases F
      · obtain ⟨hx0, hz0⟩ := HT1.out rfl
        subst hx0
        subst hz0
        clear HT1 HT2 HT3 HS7
        go_wp2_with fail
        go_ret
        exact ⟨rfl, HB7.out⟩
      · have c0 := HS7.out.c0
        cases neg
        · obtain ⟨e1, e2, e3⟩ := HT3.out rfl rfl
          subst e1
          clear HT1 HT2 HT3 HS7
          rcases width_cases u with ⟨k1, k2⟩ | ⟨k1, k2⟩ | ⟨k1, k2⟩
          all_goals
            rw [k1] at HWD
            rw [k2] at e3 ⊢
            simp only [Int.cast_ofNat_Int] at e3
            clear k1 k2
            go_wp2_with fail
            refine (HWD.out _).mono ?_
            rintro e w8 ⟨rfl, rfl⟩
            go_wp2_with fail
            go_ret
            exact ⟨rfl, HB7.out⟩
        · obtain ⟨e1, e2, e3⟩ := HT2.out rfl rfl
          subst e1
          clear HT1 HT2 HT3 HS7
          rcases width_cases u with ⟨k1, k2⟩ | ⟨k1, k2⟩ | ⟨k1, k2⟩
          all_goals
            rw [k1] at HWD
            rw [k2] at e3 ⊢
            simp only [Int.cast_ofNat_Int] at e3
            clear k1 k2
            go_wp2_with fail
            refine (HWD.out _).mono ?_
            rintro e w8 ⟨rfl, rfl⟩
            go_wp2_with fail
            go_ret
            exact ⟨rfl, HB7.out⟩
end Go.Proofs.YtgckfilmhnapeaaDoor
