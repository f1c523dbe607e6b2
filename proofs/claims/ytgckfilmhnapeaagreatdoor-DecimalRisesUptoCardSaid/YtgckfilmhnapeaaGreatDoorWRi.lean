/- The law DecimalRises: the walk. -/
import Derived.Test.YtgckfilmhnapeaaGreatDoorAg
import Derived.Test.YtgckfilmhnapeaaGreatDoorRi
import Derived.Test.YtgckfilmhnapeaaGreatDoorTl
namespace Go.Proofs.YtgckfilmhnapeaaGreatDoor
open Go.RowKit Go.Lib Go.ChangeShapes
set_option linter.unusedVariables false

theorem cmpV_cases (na nb : Bool) (a b : ByteArray) (p q : Int) (sa : a.size ≤ 1099511627776) (sb : b.size ≤ 1099511627776) : cmpV na a p nb b q = -1 ∨ cmpV na a p nb b q = 0 ∨ cmpV na a p nb b q = 1 := by
  cases hf : bothB a b with
  | false => rw [cmpV_no na nb a b p q hf]; exact .inr (.inl rfl)
  | true =>
    obtain ⟨E1, h1⟩ := places a p
    obtain ⟨E2, h2⟩ := places b q
    rw [cmpV_val na nb a b p q (E1 + E2) hf sa sb (h1 _ (by omega)) (h2 _ (by omega))]
    exact sgn_cases _
/-- what the law asks of two numbers and their patterns -/
theorem rises_all (u : Int) {na nb : Bool} {a b : ByteArray} {p q x y : Int} (sa : a.size ≤ 1048576) (sb : b.size ≤ 1048576)
    (h : LVal (wF u) (wL u) (wW u) (wS u) na a p x) (g : LVal (wF u) (wL u) (wW u) (wS u) nb b q y) :
    (fineB a = false → x = 0) ∧ (fineB b = false → y = 0) ∧ (bothB a b = true → ∃ s t : Nat, x = (s : Int) ∧ y = (t : Int) ∧ s < 2 * wS u ∧ t < 2 * wS u ∧ decide (s % wS u ≤ wI u ∧ t % wS u ≤ wI u) = true ∧
      (cmpV na a p nb b q < 0 → icmpV (wS u) (wI u) s t ≤ 0) ∧ (0 < cmpV na a p nb b q → 0 ≤ icmpV (wS u) (wI u) s t) ∧ (cmpV na a p nb b q = 0 → icmpV (wS u) (wI u) s t = 0)) := by
  refine ⟨fun e => ?_, fun e => ?_, fun e => ?_⟩
  · rcases h with ⟨-, h2⟩ | ⟨h1, -⟩
    · exact h2
    · rw [e] at h1; cases h1
  · rcases g with ⟨-, h2⟩ | ⟨h1, -⟩
    · exact h2
    · rw [e] at h1; cases h1
  · have e' := e
    unfold bothB at e'
    rw [Bool.and_eq_true] at e'
    rcases h with ⟨h1, -⟩ | ⟨-, sz, rfl, hs, hss⟩
    · rw [e'.1] at h1; cases h1
    rcases g with ⟨h1, -⟩ | ⟨-, tz, rfl, ht, hts⟩
    · rw [e'.2] at h1; cases h1
    have hS := wS_le u
    have hI := wI_eq u
    have hr := rises_law (na := na) (nb := nb) e (by omega) (by omega) hs ht
    have l1 : sz ≤ wI u := by rw [hI]; exact hs.1
    have l2 : tz ≤ wI u := by rw [hI]; exact ht.1
    have key : ∀ (n : Bool) (z : Nat), z < wS u → sgnN n z (wS u) < 2 * wS u ∧ sgnN n z (wS u) % wS u = z ∧ decide (wS u ≤ sgnN n z (wS u)) = n := by
      intro n z hz
      unfold sgnN
      cases n
      · rw [if_neg (by decide)]
        exact ⟨by omega, Nat.mod_eq_of_lt hz, decide_eq_false (by omega)⟩
      · rw [if_pos rfl]
        exact ⟨by omega, by rw [Nat.add_mod_right, Nat.mod_eq_of_lt hz], decide_eq_true (by omega)⟩
    obtain ⟨a1, a2, a3⟩ := key na sz hss
    obtain ⟨b1, b2, b3⟩ := key nb tz hts
    have hlaw := icmp_law (wS u) (wI u) _ _ hS.1 a1 b1 (by rw [a2]; exact l1) (by rw [b2]; exact l2)
    rw [a2, a3, b2, b3] at hlaw
    refine ⟨_, _, rfl, rfl, a1, b1, by rw [a2, b2, decide_eq_true_iff]; exact ⟨l1, l2⟩, ?_⟩
    rw [hlaw]
    exact hr

set_option maxRecDepth 100000 in
set_option maxHeartbeats 4000000 in
theorem wrises (u : Int) (hu : (Lit.int .u8 u).wf = true) (na : Bool) (a : ByteArray) (p : Int) (ha : a.size ≤ 1048576) (hp : (Lit.int .i64 p).wf = true) (nb : Bool) (b : ByteArray) (q : Int) (hb : b.size ≤ 1048576) (hq : (Lit.int .i64 q).wf = true) (w : World)
    (hL : laidMetH Tryz.prog Rows.decimalRisesUptoRow.laid w) :
    Calls Tryz.prog 4 #[.int .u8 u, .agg #[.bool na, .string a, .int .i64 p], .agg #[.bool nb, .string b, .int .i64 q]] w fun e w' => e = .returned (.bool true) ∧ Below w.heap.size w w' := by
  have hT : Tabs w := tabs_of_list hL
  have hmin : IntKind.i64.min = -9223372036854775808 := rfl
  have hmax : IntKind.i64.max = 9223372036854775807 := rfl
  have hmin8 : IntKind.u8.min = 0 := rfl
  have hmax8 : IntKind.u8.max = 255 := rfl
  simp only [Lit.wf, Bool.and_eq_true, decide_eq_true_eq, hmin, hmax, hmin8, hmax8] at hu hp hq
  have HB0 : Hid (Below w.heap.size w ((w.alloc (.cells #[.bool na, .string a, .int .i64 p] 26)).alloc (.cells #[.bool nb, .string b, .int .i64 q] 26))) := Lib.hid (((Below.refl w.heap.size w).alloc (Nat.le_refl _) _).alloc (by simp) _)
  have HA0 := Lib.hid ((dgC_new w na a p 26).below ((Below.refl (w.alloc (.cells #[.bool na, .string a, .int .i64 p] 26)).heap.size (w.alloc (.cells #[.bool na, .string a, .int .i64 p] 26))).alloc (Nat.le_refl _) (.cells #[.bool nb, .string b, .int .i64 q] 26)))
  have HD0 : Hid (DgC ((w.alloc (.cells #[.bool na, .string a, .int .i64 p] 26)).alloc (.cells #[.bool nb, .string b, .int .i64 q] 26)) (w.heap.size + 1) nb b q) := Lib.hid (by
    have h := dgC_new (w.alloc (.cells #[.bool na, .string a, .int .i64 p] 26)) nb b q 26
    rw [show (w.alloc (.cells #[.bool na, .string a, .int .i64 p] 26)).heap.size = w.heap.size + 1 by simp] at h
    exact h)
  have HLV := Lib.hid (fun wx (h : Below w.heap.size w wx) => lives7_any wx (hT.below h))
  have HCM := Lib.hid (fun wx => dcmp_any na nb a b p q wx hp.1 hq.2 hq.1 hp.2 (by omega) (by omega))
  have HRA := Lib.hid (fun wx (h : Below w.heap.size w wx) => lread_any u hu.1 hu.2 na a p wx (hT.below h) (by omega) hp.1 hp.2)
  have HRB := Lib.hid (fun wx (h : Below w.heap.size w wx) => lread_any u hu.1 hu.2 nb b q wx (hT.below h) (by omega) hq.1 hq.2)
  have HAG := Lib.hid (fun x y hx hy wx (h : Below w.heap.size w wx) => against_any u hu.1 x y hx hy wx (hT.below h))
  have HALL := Lib.hid (fun x y => @rises_all u na nb a b p q x y ha hb)
  have HNO := Lib.hid (cmpV_no na nb a b p q)
  have hbo : bothB a b = (fineB a && fineB b) := rfl
  have hcc := cmpV_cases na nb a b p q (by omega) (by omega)
  rw [hbo] at HCM HALL HNO
  unfold LPost at HRA HRB
  generalize fineB a = fa at *
  generalize fineB b = fb at *
  generalize cmpV na a p nb b q = n at *
  have HCC := Lib.hid hcc
  clear hT hL hmin hmax hmin8 hmax8 hu hp hq ha hb hbo hcc
  go_enter Tryz.func4, Tryz.ntmps4
  go_wp2_with fail
  refine (HLV.out _ HB0.out).mono ?_
  rintro e w1 ⟨rfl, hb1⟩
  have HB1 := Lib.hid (HB0.out.trans (hb1.mono HB0.out.size))
  have HA1 := Lib.hid (HA0.out.below hb1)
  have HD1 := Lib.hid (HD0.out.below hb1)
  clear hb1 HB0 HA0 HD0 HLV
  obtain ⟨ba, hba⟩ : ∃ ba, w.heap.size = ba := ⟨_, rfl⟩
  have c0 := HA1.out.c0
  have c1 := HA1.out.c1
  have c2 := HA1.out.c2
  have d0 := HD1.out.c0
  have d1 := HD1.out.c1
  have d2 := HD1.out.c2
  clear hba
  go_wp2_with fail
  refine (HCM.out _).mono ?_
  rintro e w2 ⟨rfl, hb2⟩
  have HB2 := Lib.hid (HB1.out.trans (hb2.mono HB1.out.size))
  have HA2 := Lib.hid (HA1.out.below hb2)
  have HD2 := Lib.hid (HD1.out.below hb2)
  clear hb2 HB1 HA1 HD1 HCM c0 c1 c2 d0 d1 d2
  have c0 := HA2.out.c0
  have c1 := HA2.out.c1
  have c2 := HA2.out.c2
  go_wp2_with fail
  refine (HRA.out _ HB2.out).mono ?_
  rintro e w3 ⟨x, rfl, hb3, hv3⟩
  have HB3 := Lib.hid (HB2.out.trans (hb3.mono HB2.out.size))
  have HD3 := Lib.hid (HD2.out.below hb3)
  have HV3 := Lib.hid hv3
  clear hb3 HB2 HA2 HD2 HRA c0 c1 c2 hv3
  have d0 := HD3.out.c0
  have d1 := HD3.out.c1
  have d2 := HD3.out.c2
  go_wp2_with fail
  refine (HRB.out _ HB3.out).mono ?_
  rintro e w4 ⟨y, rfl, hb4, hv4⟩
  have HB4 := Lib.hid (HB3.out.trans (hb4.mono HB3.out.size))
  have HW := Lib.hid (HALL.out x y HV3.out hv4)
  clear hb4 HB3 HD3 HRB d0 d1 d2 hv4 HV3 HALL
  cases fa with
  | false =>
    have hx0 := HW.out.1 rfl
    have hn0 := HNO.out rfl
    subst hx0 hn0
    cases fb with
    | false =>
      have hy0 := HW.out.2.1 rfl
      subst hy0
      go_wp2_with fail
      go_ret
      exact ⟨rfl, HB4.out⟩
    | true =>
      go_wp2_with fail
      go_ret
      exact ⟨rfl, HB4.out⟩
  | true =>
    cases fb with
    | false =>
      have hn0 := HNO.out rfl
      have hy0 := HW.out.2.1 rfl
      subst hy0 hn0
      go_wp2_with fail
      go_ret
      exact ⟨rfl, HB4.out⟩
    | true =>
      obtain ⟨s, t, rfl, rfl, h1, h2, h3, h4, h5, h6⟩ := HW.out.2.2 rfl
      have HAGG := Lib.hid (fun wx h => by
        have := HAG.out s t h1 h2 wx h
        unfold AgPost at this
        rw [h3] at this
        exact this)
      generalize icmpV (wS u) (wI u) s t = C at *
      have hcc := HCC.out
      clear HW HAG h1 h2 h3 HNO
      go_wp2_with fail
      refine (HAGG.out _ HB4.out).mono ?_
      rintro e w5 ⟨rfl, hb5⟩
      have HB5 := Lib.hid (HB4.out.trans (hb5.mono HB4.out.size))
      clear hb5 HAGG
      rcases hcc with rfl | rfl | rfl
      · have h := h4 (by decide)
        clear h4 h5 h6
        go_wp2_with fail
        go_ret
        exact ⟨rfl, HB5.out⟩
      · have h := h6 rfl
        clear h4 h5 h6
        subst h
        go_wp2_with fail
        go_ret
        exact ⟨rfl, HB5.out⟩
      · have h := h5 (by decide)
        clear h4 h5 h6
        go_wp2_with fail
        go_ret
        exact ⟨rfl, HB5.out⟩
end Go.Proofs.YtgckfilmhnapeaaGreatDoor
