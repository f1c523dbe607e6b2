/- law07.side: the comparison of m 10^p with n 2^e. -/
import Derived.Test.YtgckfilmhnapeaaDoorNe
namespace Go.Proofs.YtgckfilmhnapeaaDoor
open Go.RowKit Go.Lib
set_option linter.unusedVariables false

theorem ll_le_small (m k : Nat) (h : ll m ≤ k) (hk : k ≤ 600) : blen m ≤ 32 * 600 := by
  have := blen_of_ll m k h
  omega

set_option maxRecDepth 100000 in
set_option maxHeartbeats 1000000 in
theorem side_uu (A B : Option Addr) (c d m M P E : Nat) (w : World) (hT : Tabs w) (hA : CanC w A c m) (hB : CanC w B d M) (hm : ll m ≤ 100) (hM : ll M ≤ 100) (hP : P ≤ 420) (hE : E ≤ 1100) (hP0 : 0 < P) (hE0 : 0 < E) :
    Calls Tryd.prog 24 #[.slice A (ll m) c, .int .i64 (P : Int), .slice B (ll M) d, .int .i64 (E : Int)] w fun e w' => e = .returned (.int .i64 (cmpZ (m * 10 ^ P) ((M) * 2 ^ E))) ∧ Below w.heap.size w w' := by
  have HS := Lib.hid (scaled_any A c m P w hT hA hm hP)
  obtain ⟨-, l2, b2⟩ := ll_ten m P hm hP
  have bm := ll_le_small m 100 hm (by decide)
  have bM := ll_le_small M 100 hM (by decide)
  have HA := Lib.hid hA
  have HB := Lib.hid hB
  obtain ⟨Z, hZ⟩ : ∃ Z, m * 10 ^ P = Z := ⟨_, rfl⟩
  rw [hZ] at HS l2 b2 ⊢
  clear hZ
  have lS : ll (M * 2 ^ E) ≤ 1000 := ll_shl M E 1000 (by omega)
  have HSH := Lib.hid (fun wx D k (h : CanC wx D k M) => shl_can D M k E wx h.can h.le h.max (by omega))
  obtain ⟨S, hS⟩ : ∃ S, M * 2 ^ E = S := ⟨_, rfl⟩
  rw [hS] at HSH lS ⊢
  clear hS
  have HC := Lib.hid (fun wx D k F q (h : CanC wx D k Z) (g : CanC wx F q S) => cmp_can D F Z S k q wx h.can g.can h.le g.le h.max g.max (by omega) (by omega))
  have p0 : (0 : Int) < (P : Int) := by omega
  have e0 : (0 : Int) < (E : Int) := by omega
  have p1 : (P : Int) ≤ 420 := by omega
  have e1 : (E : Int) ≤ 1100 := by omega
  clear hT hA hB hm hM hP hE l2 b2 bm bM lS hP0 hE0
  go_enter Tryd.func24, Tryd.ntmps24
  go_wp2_with fail
  refine HS.out.mono ?_
  rintro e w1 ⟨Z1, z1, rfl, hca, hla, hma, hba⟩
  have CZ := Lib.hid (CanC.mk hca hla hma)
  have CA := Lib.hid (HA.out.below hba)
  have CB := Lib.hid (HB.out.below hba)
  have HB1 := Lib.hid hba
  clear hca hla hma hba HS HA HB
  go_wp2_with fail
  refine (HSH.out _ _ _ CB.out).mono ?_
  rintro e w2 ⟨S1, s1, rfl, hca, hla, hma, hba⟩
  have CS := Lib.hid (CanC.mk hca hla hma)
  have CZ2 := Lib.hid (CZ.out.below hba)
  have CA2 := Lib.hid (CA.out.below hba)
  have CB2 := Lib.hid (CB.out.below hba)
  have HB2 := Lib.hid (HB1.out.trans (hba.mono HB1.out.size))
  clear hca hla hma hba HSH CZ CA CB
  go_wp2_with fail
  refine (HC.out _ _ _ _ _ CZ2.out CS.out).mono ?_
  rintro e w3 ⟨rfl, hb⟩
  have HB3 := Lib.hid (HB2.out.trans (hb.mono HB2.out.size))
  clear hb
  go_wp2_with fail
  go_ret
  exact ⟨rfl, HB3.out⟩

set_option maxRecDepth 100000 in
set_option maxHeartbeats 1000000 in
theorem side_ud (A B : Option Addr) (c d m M P E : Nat) (w : World) (hT : Tabs w) (hA : CanC w A c m) (hB : CanC w B d M) (hm : ll m ≤ 100) (hM : ll M ≤ 100) (hP : P ≤ 420) (hE : E ≤ 1100) (hP0 : 0 < P) :
    Calls Tryd.prog 24 #[.slice A (ll m) c, .int .i64 (P : Int), .slice B (ll M) d, .int .i64 (-(E : Int))] w fun e w' => e = .returned (.int .i64 (cmpZ ((m * 10 ^ P) * 2 ^ E) (M))) ∧ Below w.heap.size w w' := by
  have HS := Lib.hid (scaled_any A c m P w hT hA hm hP)
  obtain ⟨-, l2, b2⟩ := ll_ten m P hm hP
  have bm := ll_le_small m 100 hm (by decide)
  have bM := ll_le_small M 100 hM (by decide)
  have HA := Lib.hid hA
  have HB := Lib.hid hB
  obtain ⟨Z, hZ⟩ : ∃ Z, m * 10 ^ P = Z := ⟨_, rfl⟩
  rw [hZ] at HS l2 b2 ⊢
  clear hZ
  have lS : ll (Z * 2 ^ E) ≤ 1000 := ll_shl Z E 1000 (by omega)
  have HSH := Lib.hid (fun wx D k (h : CanC wx D k Z) => shl_can D Z k E wx h.can h.le h.max (by omega))
  obtain ⟨S, hS⟩ : ∃ S, Z * 2 ^ E = S := ⟨_, rfl⟩
  rw [hS] at HSH lS ⊢
  clear hS
  have HC := Lib.hid (fun wx D k F q (h : CanC wx D k S) (g : CanC wx F q M) => cmp_can D F S M k q wx h.can g.can h.le g.le h.max g.max (by omega) (by omega))
  have p0 : (0 : Int) < (P : Int) := by omega
  have e0 : (0 : Int) ≤ (E : Int) := by omega
  have p1 : (P : Int) ≤ 420 := by omega
  have e1 : (E : Int) ≤ 1100 := by omega
  clear hT hA hB hm hM hP hE l2 b2 bm bM lS hP0
  go_enter Tryd.func24, Tryd.ntmps24
  go_wp2_with fail
  refine HS.out.mono ?_
  rintro e w1 ⟨Z1, z1, rfl, hca, hla, hma, hba⟩
  have CZ := Lib.hid (CanC.mk hca hla hma)
  have CA := Lib.hid (HA.out.below hba)
  have CB := Lib.hid (HB.out.below hba)
  have HB1 := Lib.hid hba
  clear hca hla hma hba HS HA HB
  go_wp2_with fail
  refine (HSH.out _ _ _ CZ.out).mono ?_
  rintro e w2 ⟨S1, s1, rfl, hca, hla, hma, hba⟩
  have CS := Lib.hid (CanC.mk hca hla hma)
  have CZ2 := Lib.hid (CZ.out.below hba)
  have CA2 := Lib.hid (CA.out.below hba)
  have CB2 := Lib.hid (CB.out.below hba)
  have HB2 := Lib.hid (HB1.out.trans (hba.mono HB1.out.size))
  clear hca hla hma hba HSH CZ CA CB
  go_wp2_with fail
  refine (HC.out _ _ _ _ _ CS.out CB2.out).mono ?_
  rintro e w3 ⟨rfl, hb⟩
  have HB3 := Lib.hid (HB2.out.trans (hb.mono HB2.out.size))
  clear hb
  go_wp2_with fail
  go_ret
  exact ⟨rfl, HB3.out⟩

set_option maxRecDepth 100000 in
set_option maxHeartbeats 1000000 in
theorem side_du (A B : Option Addr) (c d m M P E : Nat) (w : World) (hT : Tabs w) (hA : CanC w A c m) (hB : CanC w B d M) (hm : ll m ≤ 100) (hM : ll M ≤ 100) (hP : P ≤ 420) (hE : E ≤ 1100) (hE0 : 0 < E) :
    Calls Tryd.prog 24 #[.slice A (ll m) c, .int .i64 (-(P : Int)), .slice B (ll M) d, .int .i64 (E : Int)] w fun e w' => e = .returned (.int .i64 (cmpZ (m) ((M * 10 ^ P) * 2 ^ E))) ∧ Below w.heap.size w w' := by
  have HS := Lib.hid (scaled_any B d M P w hT hB hM hP)
  obtain ⟨-, l2, b2⟩ := ll_ten M P hM hP
  have bm := ll_le_small m 100 hm (by decide)
  have bM := ll_le_small M 100 hM (by decide)
  have HA := Lib.hid hA
  have HB := Lib.hid hB
  obtain ⟨Z, hZ⟩ : ∃ Z, M * 10 ^ P = Z := ⟨_, rfl⟩
  rw [hZ] at HS l2 b2 ⊢
  clear hZ
  have lS : ll (Z * 2 ^ E) ≤ 1000 := ll_shl Z E 1000 (by omega)
  have HSH := Lib.hid (fun wx D k (h : CanC wx D k Z) => shl_can D Z k E wx h.can h.le h.max (by omega))
  obtain ⟨S, hS⟩ : ∃ S, Z * 2 ^ E = S := ⟨_, rfl⟩
  rw [hS] at HSH lS ⊢
  clear hS
  have HC := Lib.hid (fun wx D k F q (h : CanC wx D k m) (g : CanC wx F q S) => cmp_can D F m S k q wx h.can g.can h.le g.le h.max g.max (by omega) (by omega))
  have p0 : (0 : Int) ≤ (P : Int) := by omega
  have e0 : (0 : Int) < (E : Int) := by omega
  have p1 : (P : Int) ≤ 420 := by omega
  have e1 : (E : Int) ≤ 1100 := by omega
  clear hT hA hB hm hM hP hE l2 b2 bm bM lS hE0
  go_enter Tryd.func24, Tryd.ntmps24
  go_wp2_with fail
  refine HS.out.mono ?_
  rintro e w1 ⟨Z1, z1, rfl, hca, hla, hma, hba⟩
  have CZ := Lib.hid (CanC.mk hca hla hma)
  have CA := Lib.hid (HA.out.below hba)
  have CB := Lib.hid (HB.out.below hba)
  have HB1 := Lib.hid hba
  clear hca hla hma hba HS HA HB
  go_wp2_with fail
  refine (HSH.out _ _ _ CZ.out).mono ?_
  rintro e w2 ⟨S1, s1, rfl, hca, hla, hma, hba⟩
  have CS := Lib.hid (CanC.mk hca hla hma)
  have CZ2 := Lib.hid (CZ.out.below hba)
  have CA2 := Lib.hid (CA.out.below hba)
  have CB2 := Lib.hid (CB.out.below hba)
  have HB2 := Lib.hid (HB1.out.trans (hba.mono HB1.out.size))
  clear hca hla hma hba HSH CZ CA CB
  go_wp2_with fail
  refine (HC.out _ _ _ _ _ CA2.out CS.out).mono ?_
  rintro e w3 ⟨rfl, hb⟩
  have HB3 := Lib.hid (HB2.out.trans (hb.mono HB2.out.size))
  clear hb
  go_wp2_with fail
  go_ret
  exact ⟨rfl, HB3.out⟩

set_option maxRecDepth 100000 in
set_option maxHeartbeats 1000000 in
theorem side_dd (A B : Option Addr) (c d m M P E : Nat) (w : World) (hT : Tabs w) (hA : CanC w A c m) (hB : CanC w B d M) (hm : ll m ≤ 100) (hM : ll M ≤ 100) (hP : P ≤ 420) (hE : E ≤ 1100) :
    Calls Tryd.prog 24 #[.slice A (ll m) c, .int .i64 (-(P : Int)), .slice B (ll M) d, .int .i64 (-(E : Int))] w fun e w' => e = .returned (.int .i64 (cmpZ ((m) * 2 ^ E) (M * 10 ^ P))) ∧ Below w.heap.size w w' := by
  have HS := Lib.hid (scaled_any B d M P w hT hB hM hP)
  obtain ⟨-, l2, b2⟩ := ll_ten M P hM hP
  have bm := ll_le_small m 100 hm (by decide)
  have bM := ll_le_small M 100 hM (by decide)
  have HA := Lib.hid hA
  have HB := Lib.hid hB
  obtain ⟨Z, hZ⟩ : ∃ Z, M * 10 ^ P = Z := ⟨_, rfl⟩
  rw [hZ] at HS l2 b2 ⊢
  clear hZ
  have lS : ll (m * 2 ^ E) ≤ 1000 := ll_shl m E 1000 (by omega)
  have HSH := Lib.hid (fun wx D k (h : CanC wx D k m) => shl_can D m k E wx h.can h.le h.max (by omega))
  obtain ⟨S, hS⟩ : ∃ S, m * 2 ^ E = S := ⟨_, rfl⟩
  rw [hS] at HSH lS ⊢
  clear hS
  have HC := Lib.hid (fun wx D k F q (h : CanC wx D k S) (g : CanC wx F q Z) => cmp_can D F S Z k q wx h.can g.can h.le g.le h.max g.max (by omega) (by omega))
  have p0 : (0 : Int) ≤ (P : Int) := by omega
  have e0 : (0 : Int) ≤ (E : Int) := by omega
  have p1 : (P : Int) ≤ 420 := by omega
  have e1 : (E : Int) ≤ 1100 := by omega
  clear hT hA hB hm hM hP hE l2 b2 bm bM lS
  go_enter Tryd.func24, Tryd.ntmps24
  go_wp2_with fail
  refine HS.out.mono ?_
  rintro e w1 ⟨Z1, z1, rfl, hca, hla, hma, hba⟩
  have CZ := Lib.hid (CanC.mk hca hla hma)
  have CA := Lib.hid (HA.out.below hba)
  have CB := Lib.hid (HB.out.below hba)
  have HB1 := Lib.hid hba
  clear hca hla hma hba HS HA HB
  go_wp2_with fail
  refine (HSH.out _ _ _ CA.out).mono ?_
  rintro e w2 ⟨S1, s1, rfl, hca, hla, hma, hba⟩
  have CS := Lib.hid (CanC.mk hca hla hma)
  have CZ2 := Lib.hid (CZ.out.below hba)
  have CA2 := Lib.hid (CA.out.below hba)
  have CB2 := Lib.hid (CB.out.below hba)
  have HB2 := Lib.hid (HB1.out.trans (hba.mono HB1.out.size))
  clear hca hla hma hba HSH CZ CA CB
  go_wp2_with fail
  refine (HC.out _ _ _ _ _ CS.out CZ2.out).mono ?_
  rintro e w3 ⟨rfl, hb⟩
  have HB3 := Lib.hid (HB2.out.trans (hb.mono HB2.out.size))
  clear hb
  go_wp2_with fail
  go_ret
  exact ⟨rfl, HB3.out⟩

/-- side, whatever the powers are -/
theorem side_any (A B : Option Addr) (c d m M : Nat) (p e : Int) (w : World) (hT : Tabs w) (hA : CanC w A c m) (hB : CanC w B d M) (hm : ll m ≤ 100) (hM : ll M ≤ 100) (hp1 : -420 ≤ p) (hp2 : p ≤ 420) (he1 : -1100 ≤ e) (he2 : e ≤ 1100) :
    Calls Tryd.prog 24 #[.slice A (ll m) c, .int .i64 p, .slice B (ll M) d, .int .i64 e] w fun en w' => en = .returned (.int .i64 (cmpZ (m * 10 ^ p.toNat * 2 ^ (-e).toNat) (M * 10 ^ (-p).toNat * 2 ^ e.toNat))) ∧ Below w.heap.size w w' := by
  by_cases hp : 0 < p
  · obtain ⟨P, rfl⟩ : ∃ P : Nat, p = P := ⟨p.toNat, by omega⟩
    have i1 : ((P : Int)).toNat = P := by omega
    have i2 : (-(P : Int)).toNat = 0 := by omega
    rw [i1, i2, Nat.pow_zero, Nat.mul_one]
    by_cases he : 0 < e
    · obtain ⟨E, rfl⟩ : ∃ E : Nat, e = E := ⟨e.toNat, by omega⟩
      have j1 : ((E : Int)).toNat = E := by omega
      have j2 : (-(E : Int)).toNat = 0 := by omega
      rw [j1, j2, Nat.pow_zero, Nat.mul_one]
      exact side_uu A B c d m M P E w hT hA hB hm hM (by omega) (by omega) (by omega) (by omega)
    · obtain ⟨E, rfl⟩ : ∃ E : Nat, e = -(E : Int) := ⟨(-e).toNat, by omega⟩
      have j1 : (-(E : Int)).toNat = 0 := by omega
      have j2 : (-(-(E : Int))).toNat = E := by omega
      rw [j1, j2, Nat.pow_zero, Nat.mul_one]
      exact side_ud A B c d m M P E w hT hA hB hm hM (by omega) (by omega) (by omega)
  · obtain ⟨P, rfl⟩ : ∃ P : Nat, p = -(P : Int) := ⟨(-p).toNat, by omega⟩
    have i1 : (-(P : Int)).toNat = 0 := by omega
    have i2 : (-(-(P : Int))).toNat = P := by omega
    rw [i1, i2, Nat.pow_zero, Nat.mul_one]
    by_cases he : 0 < e
    · obtain ⟨E, rfl⟩ : ∃ E : Nat, e = E := ⟨e.toNat, by omega⟩
      have j1 : ((E : Int)).toNat = E := by omega
      have j2 : (-(E : Int)).toNat = 0 := by omega
      rw [j1, j2, Nat.pow_zero, Nat.mul_one]
      exact side_du A B c d m M P E w hT hA hB hm hM (by omega) (by omega) (by omega)
    · obtain ⟨E, rfl⟩ : ∃ E : Nat, e = -(E : Int) := ⟨(-e).toNat, by omega⟩
      have j1 : (-(E : Int)).toNat = 0 := by omega
      have j2 : (-(-(E : Int))).toNat = E := by omega
      rw [j1, j2, Nat.pow_zero, Nat.mul_one]
      exact side_dd A B c d m M P E w hT hA hB hm hM (by omega) (by omega)
end Go.Proofs.YtgckfilmhnapeaaDoor
