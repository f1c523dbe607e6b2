/- The law DecimalSorted. -/
import Derived.Test.YtgckfilmhnapeaaDoorLv
import Derived.Test.YtgckfilmhnapeaaDoorTl
namespace Go.Proofs.YtgckfilmhnapeaaDoor
open Go.RowKit Go.Lib Go.ChangeShapes
set_option linter.unusedVariables false

theorem sorted_facts (na nb nc : Bool) (a b c : ByteArray) (p q r : Int) (sa : a.size ≤ 1048576) (sb : b.size ≤ 1048576) (sc : c.size ≤ 1048576) :
    (cmpV na a p nb b q = -1 ∨ cmpV na a p nb b q = 0 ∨ cmpV na a p nb b q = 1) ∧ (cmpV nb b q nc c r = -1 ∨ cmpV nb b q nc c r = 0 ∨ cmpV nb b q nc c r = 1) ∧ (cmpV na a p nc c r = -1 ∨ cmpV na a p nc c r = 0 ∨ cmpV na a p nc c r = 1) ∧
    cmpV nb b q na a p = -cmpV na a p nb b q ∧ cmpV na a p na a p = 0 ∧ bothB b a = bothB a b ∧ (bothB a b = true → bothB a a = true) ∧ (bothB a b = true → bothB b c = true → bothB a c = true) ∧
    (bothB a b = false → cmpV na a p nb b q = 0) ∧ (bothB b c = false → cmpV nb b q nc c r = 0) ∧
    (bothB a b = true → bothB b c = true → (0 < cmpV na a p nb b q ∨ 0 < cmpV nb b q nc c r ∨ cmpV na a p nc c r ≤ 0) ∧ (cmpV na a p nb b q < 0 ∨ cmpV nb b q nc c r < 0 ∨ 0 ≤ cmpV na a p nc c r)) := by
  obtain ⟨E1, f1⟩ := places a p
  obtain ⟨E2, f2⟩ := places b q
  obtain ⟨E3, f3⟩ := places c r
  obtain ⟨E, hE⟩ : ∃ E, E = E1 + E2 + E3 := ⟨_, rfl⟩
  have g1 := f1 E (by omega)
  have g2 := f2 E (by omega)
  have g3 := f3 E (by omega)
  have cas : ∀ (n m : Bool) (s t : ByteArray) (u v : Int), s.size ≤ 1048576 → t.size ≤ 1048576 → 0 ≤ u - s.size + E → 0 ≤ v - t.size + E → cmpV n s u m t v = -1 ∨ cmpV n s u m t v = 0 ∨ cmpV n s u m t v = 1 := by
    intro n m s t u v hs ht hu hv
    cases h : bothB s t
    · exact .inr (.inl (cmpV_no n m s t u v h))
    · rw [cmpV_val n m s t u v E h (by omega) (by omega) hu hv]; exact sgn_cases _
  refine ⟨cas _ _ _ _ _ _ sa sb g1 g2, cas _ _ _ _ _ _ sb sc g2 g3, cas _ _ _ _ _ _ sa sc g1 g3, ?_, ?_, bothB_comm a b, ?_, ?_, cmpV_no _ _ _ _ _ _, cmpV_no _ _ _ _ _ _, ?_⟩
  · cases h : bothB a b
    · rw [cmpV_no _ _ _ _ _ _ h, cmpV_no _ _ _ _ _ _ ((bothB_comm a b).trans h)]; rfl
    · rw [cmpV_val _ _ _ _ _ _ E h (by omega) (by omega) g1 g2, cmpV_val _ _ _ _ _ _ E ((bothB_comm a b).trans h) (by omega) (by omega) g2 g1]
      unfold sgn
      repeat' split
      all_goals omega
  · cases h : bothB a a
    · exact cmpV_no _ _ _ _ _ _ h
    · rw [cmpV_val _ _ _ _ _ _ E h (by omega) (by omega) g1 g1, Int.sub_self]; rfl
  · unfold bothB; simp only [Bool.and_eq_true]; intro h; exact ⟨h.1, h.1⟩
  · unfold bothB; simp only [Bool.and_eq_true]; intro h h2; exact ⟨h.1, h2.2⟩
  · intro h h2
    have h3 : bothB a c = true := by unfold bothB at *; simp only [Bool.and_eq_true] at *; exact ⟨h.1, h2.2⟩
    rw [cmpV_val _ _ _ _ _ _ E h (by omega) (by omega) g1 g2, cmpV_val _ _ _ _ _ _ E h2 (by omega) (by omega) g2 g3, cmpV_val _ _ _ _ _ _ E h3 (by omega) (by omega) g1 g3]
    generalize sval na a p E = x
    generalize sval nb b q E = y
    generalize sval nc c r E = z
    unfold sgn
    repeat' split
    all_goals omega

theorem three_new (w : World) (na nb nc : Bool) (a b c : ByteArray) (p q r : Int) (t : TypeId) :
    DgC (((w.alloc (.cells #[.bool na, .string a, .int .i64 p] t)).alloc (.cells #[.bool nb, .string b, .int .i64 q] t)).alloc (.cells #[.bool nc, .string c, .int .i64 r] t)) w.heap.size na a p ∧
    DgC (((w.alloc (.cells #[.bool na, .string a, .int .i64 p] t)).alloc (.cells #[.bool nb, .string b, .int .i64 q] t)).alloc (.cells #[.bool nc, .string c, .int .i64 r] t)) (w.heap.size + 1) nb b q ∧
    DgC (((w.alloc (.cells #[.bool na, .string a, .int .i64 p] t)).alloc (.cells #[.bool nb, .string b, .int .i64 q] t)).alloc (.cells #[.bool nc, .string c, .int .i64 r] t)) (w.heap.size + 1 + 1) nc c r ∧
    Below w.heap.size w (((w.alloc (.cells #[.bool na, .string a, .int .i64 p] t)).alloc (.cells #[.bool nb, .string b, .int .i64 q] t)).alloc (.cells #[.bool nc, .string c, .int .i64 r] t)) := by
  have h0 := dgC_new w na a p t
  have h1 := dgC_new (w.alloc (.cells #[.bool na, .string a, .int .i64 p] t)) nb b q t
  have h2 := dgC_new ((w.alloc (.cells #[.bool na, .string a, .int .i64 p] t)).alloc (.cells #[.bool nb, .string b, .int .i64 q] t)) nc c r t
  rw [show (w.alloc (.cells #[.bool na, .string a, .int .i64 p] t)).heap.size = w.heap.size + 1 by simp] at h1
  rw [show ((w.alloc (.cells #[.bool na, .string a, .int .i64 p] t)).alloc (.cells #[.bool nb, .string b, .int .i64 q] t)).heap.size = w.heap.size + 1 + 1 by simp] at h2
  have al : ∀ (wx : World) (o : Obj), Below wx.heap.size wx (wx.alloc o) := fun wx o => (Below.refl _ _).alloc (Nat.le_refl _) _
  refine ⟨(h0.below (al _ _)).below (al _ _), h1.below (al _ _), h2, (((Below.refl _ _).alloc (Nat.le_refl _) _).alloc (by simp) _).alloc (by simp; omega) _⟩

set_option maxRecDepth 100000 in
set_option maxHeartbeats 4000000 in
theorem wsorted (na : Bool) (a : ByteArray) (p : Int) (ha : a.size ≤ 1048576) (hp : (Lit.int .i64 p).wf = true) (nb : Bool) (b : ByteArray) (q : Int) (hb : b.size ≤ 1048576) (hq : (Lit.int .i64 q).wf = true) (nc : Bool) (c : ByteArray) (r : Int) (hc : c.size ≤ 1048576) (hr : (Lit.int .i64 r).wf = true) (w : World)
    (hL : laidMetH Tryd.prog Rows.decimalSortedUptoRow.laid w) :
    Calls Tryd.prog 7 #[.agg #[.bool na, .string a, .int .i64 p], .agg #[.bool nb, .string b, .int .i64 q], .agg #[.bool nc, .string c, .int .i64 r]] w fun e w' => e = .returned (.bool true) ∧ Below w.heap.size w w' := by
  have hT : Tabs w := tabs_of_list hL
  have hmin : IntKind.i64.min = -9223372036854775808 := rfl
  have hmax : IntKind.i64.max = 9223372036854775807 := rfl
  simp only [Lit.wf, Bool.and_eq_true, decide_eq_true_eq, hmin, hmax] at hp hq hr
  have HAB := Lib.hid (fun wx => dcmp_any na nb a b p q wx hp.1 hq.2 hq.1 hp.2 (by omega) (by omega))
  have HBC := Lib.hid (fun wx => dcmp_any nb nc b c q r wx hq.1 hr.2 hr.1 hq.2 (by omega) (by omega))
  have HAC := Lib.hid (fun wx => dcmp_any na nc a c p r wx hp.1 hr.2 hr.1 hp.2 (by omega) (by omega))
  have HBA := Lib.hid (fun wx => dcmp_any nb na b a q p wx hq.1 hp.2 hp.1 hq.2 (by omega) (by omega))
  have HAA := Lib.hid (fun wx => dcmp_any na na a a p p wx hp.1 hp.2 hp.1 hp.2 (by omega) (by omega))
  obtain ⟨kx, ky, kz, k1, k2, k3, k4, k5, k6, k7, k8⟩ := sorted_facts na nb nc a b c p q r ha hb hc
  rw [k1, k3] at HBA
  rw [k2] at HAA
  clear k1 k2 k3 hp hq hr ha hb hc hmin hmax hL
  generalize cmpV na a p nb b q = x at *
  generalize cmpV nb b q nc c r = y at *
  generalize cmpV na a p nc c r = z at *
  generalize bothB a b = B1 at *
  generalize bothB b c = B2 at *
  generalize bothB a c = B3 at *
  generalize bothB a a = B5 at *
  have HK := Lib.hid (And.intro kx (And.intro ky (And.intro kz (And.intro k4 (And.intro k5 (And.intro k6 (And.intro k7 k8)))))))
  clear kx ky kz k4 k5 k6 k7 k8
  obtain ⟨da, db, dc, bel⟩ := three_new w na nb nc a b c p q r 23
  have HDA := Lib.hid da
  have HDB := Lib.hid db
  have HDC := Lib.hid dc
  have HB0 := Lib.hid bel
  have HLV := Lib.hid (lives7_any _ (hT.below bel))
  clear da db dc bel hT
  go_enter Tryd.func7, Tryd.ntmps7
  go_wp2_with fail
  refine HLV.out.mono ?_
  rintro e w1 ⟨rfl, hb1⟩
  have HA1 := Lib.hid (HDA.out.below (hb1.mono (Nat.le_refl _)))
  have HB1 := Lib.hid (HDB.out.below (hb1.mono (Nat.le_refl _)))
  have HC1 := Lib.hid (HDC.out.below (hb1.mono (Nat.le_refl _)))
  have HW1 := Lib.hid (HB0.out.trans (hb1.mono HB0.out.size))
  clear hb1 HDA HDB HDC HB0 HLV
  have a0 := HA1.out.c0
  have a1 := HA1.out.c1
  have a2 := HA1.out.c2
  have b0 := HB1.out.c0
  have b1 := HB1.out.c1
  have b2 := HB1.out.c2
  have c0 := HC1.out.c0
  have c1 := HC1.out.c1
  have c2 := HC1.out.c2
  go_wp2_with fail
  refine (HAB.out _).mono ?_
  rintro e w2 ⟨rfl, hb2⟩
  have HA2 := Lib.hid (HA1.out.below hb2)
  have HB2 := Lib.hid (HB1.out.below hb2)
  have HC2 := Lib.hid (HC1.out.below hb2)
  have HW2 := Lib.hid (HW1.out.trans (hb2.mono HW1.out.size))
  clear hb2 HA1 HB1 HC1 HW1 HAB a0 a1 a2 b0 b1 b2 c0 c1 c2
  have b0 := HB2.out.c0
  have b1 := HB2.out.c1
  have b2 := HB2.out.c2
  have c0 := HC2.out.c0
  have c1 := HC2.out.c1
  have c2 := HC2.out.c2
  go_wp2_with fail
  refine (HBC.out _).mono ?_
  rintro e w3 ⟨rfl, hb2⟩
  have HA3 := Lib.hid (HA2.out.below hb2)
  have HB3 := Lib.hid (HB2.out.below hb2)
  have HC3 := Lib.hid (HC2.out.below hb2)
  have HW3 := Lib.hid (HW2.out.trans (hb2.mono HW2.out.size))
  clear hb2 HA2 HB2 HC2 HW2 HBC b0 b1 b2 c0 c1 c2
  have a0 := HA3.out.c0
  have a1 := HA3.out.c1
  have a2 := HA3.out.c2
  have c0 := HC3.out.c0
  have c1 := HC3.out.c1
  have c2 := HC3.out.c2
  go_wp2_with fail
  refine (HAC.out _).mono ?_
  rintro e w4 ⟨rfl, hb2⟩
  have HA4 := Lib.hid (HA3.out.below hb2)
  have HB4 := Lib.hid (HB3.out.below hb2)
  have HW4 := Lib.hid (HW3.out.trans (hb2.mono HW3.out.size))
  clear hb2 HA3 HB3 HC3 HW3 HAC a0 a1 a2 c0 c1 c2
  have a0 := HA4.out.c0
  have a1 := HA4.out.c1
  have a2 := HA4.out.c2
  have b0 := HB4.out.c0
  have b1 := HB4.out.c1
  have b2 := HB4.out.c2
  go_wp2_with fail
  refine (HBA.out _).mono ?_
  rintro e w5 ⟨rfl, hb2⟩
  have HA5 := Lib.hid (HA4.out.below hb2)
  have HW5 := Lib.hid (HW4.out.trans (hb2.mono HW4.out.size))
  clear hb2 HA4 HB4 HW4 HBA a0 a1 a2 b0 b1 b2
  have a0 := HA5.out.c0
  have a1 := HA5.out.c1
  have a2 := HA5.out.c2
  go_wp2_with fail
  refine (HAA.out _).mono ?_
  rintro e w6 ⟨rfl, hb2⟩
  have HW6 := Lib.hid (HW5.out.trans (hb2.mono HW5.out.size))
  clear hb2 HA5 HW5 HAA a0 a1 a2
  obtain ⟨kx, ky, kz, k4, k5, k6, k7, k8⟩ := HK.out
  clear HK
  cases B1
  · have hx0 := k6 rfl
    subst hx0
    clear kx kz k4 k5 k6 k8
    cases B2
    · have hy0 := k7 rfl
      subst hy0
      go_wp2_with fail
      go_ret
      exact ⟨rfl, HW6.out⟩
    · clear k7
      go_wp2_with fail
      go_ret
      exact ⟨rfl, HW6.out⟩
  · have h5 := k4 rfl
    subst h5
    cases B2
    · have hy0 := k7 rfl
      subst hy0
      clear ky kz k4 k5 k6 k7 k8
      rcases kx with rfl | rfl | rfl
      all_goals
        go_wp2_with fail
        go_ret
        exact ⟨rfl, HW6.out⟩
    · have h3 := k5 rfl rfl
      subst h3
      obtain ⟨t1, t2⟩ := k8 rfl rfl
      clear k4 k5 k6 k7 k8
      rcases kx with rfl | rfl | rfl <;> rcases ky with rfl | rfl | rfl <;> rcases kz with rfl | rfl | rfl <;> first | (exfalso; revert t1 t2; decide) | skip
      all_goals
        clear t1 t2
        go_wp2_with fail
        go_ret
        exact ⟨rfl, HW6.out⟩
end Go.Proofs.YtgckfilmhnapeaaDoor
