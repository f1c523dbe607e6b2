/- The program's ieee at uint16: of, sign, inf, split, signed. -/
import Derived.Test.YtgckfilmhnapeaaDoorIe0
namespace Go.Proofs.YtgckfilmhnapeaaDoor
open Go.RowKit
set_option linter.unusedVariables false

set_option maxRecDepth 100000 in
theorem of_C (w : World) (hT : Tabs0 w) : Calls Tryd.prog 113 #[] w fun e w' => e = .returned (shpV 10 (-24) 5) ∧ Below w.heap.size w w' := by
  have h0 := hT.ts 0 (by decide)
  have h1 := hT.ts 1 (by decide)
  have h2 := hT.ts 2 (by decide)
  have hb := hT.bs
  have hne : ¬ (0 = w.heap.size) := by omega
  have k0 : (w.alloc (.cells #[.int .i64 0, .int .i64 0, .int .i64 0] 121)).cell? ⟨0, 0, none⟩ = some (.int .i64 10) := (((Below.refl w.heap.size w).alloc (Nat.le_refl _) _).cell (p := ⟨0, 0, none⟩) hb).trans h0
  have k1 : (w.alloc (.cells #[.int .i64 0, .int .i64 0, .int .i64 0] 121)).cell? ⟨0, 1, none⟩ = some (.int .i64 (-24)) := (((Below.refl w.heap.size w).alloc (Nat.le_refl _) _).cell (p := ⟨0, 1, none⟩) hb).trans h1
  have k2 : (w.alloc (.cells #[.int .i64 0, .int .i64 0, .int .i64 0] 121)).cell? ⟨0, 2, none⟩ = some (.int .i64 5) := (((Below.refl w.heap.size w).alloc (Nat.le_refl _) _).cell (p := ⟨0, 2, none⟩) hb).trans h2
  have sg : IntKind.u16.signed = false := by kernel_rfl
  have mx : IntKind.u16.max = 65535 := by kernel_rfl
  have xr : bits .xor .u16 65535 0 = 65535 := by kernel_rfl
  clear h0 h1 h2 hT
  go_enter Tryd.func113, Tryd.ntmps113
  go_wp2_with fail
  exact bodyPost_ret (v := shpV 10 (-24) 5) (by simp [results, Tryd.results113, go_sem, shpV]) rfl ⟨rfl, (Below.refl _ _).alloc (Nat.le_refl _) _⟩
theorem sign_C (w : World) : Calls Tryd.prog 121 #[shpV 10 (-24) 5] w fun e w' => e = .returned (.int .u64 32768) ∧ Below w.heap.size w w' := by
  unfold shpV
  go_enter Tryd.func121, Tryd.ntmps121
  go_wp2_with fail
  go_ret
  exact ⟨rfl, (Below.refl _ _).alloc (Nat.le_refl _) _⟩
set_option maxRecDepth 100000 in
theorem inf_C (w : World) : Calls Tryd.prog 88 #[shpV 10 (-24) 5] w fun e w' => e = .returned (.int .u64 31744) ∧ Below w.heap.size w w' := by
  have HS := Lib.hid (fun wx => sign_C wx)
  unfold shpV at HS ⊢
  go_enter Tryd.func88, Tryd.ntmps88
  go_wp2_with fail
  have hb0 := (Blk.new w 121 #[.int .i64 10, .int .i64 (-24), .int .i64 5])
  have HC : Hid (Cells3 (w.alloc (.cells #[.int .i64 10, .int .i64 (-24), .int .i64 5] 121)) w.heap.size 10 (-24) 5) := Lib.hid ⟨by rw [hb0.cell 0] <;> rfl, by rw [hb0.cell 1] <;> rfl, by rw [hb0.cell 2] <;> rfl⟩
  have HKEEP : Hid (∀ wy, Below (w.alloc (.cells #[.int .i64 10, .int .i64 (-24), .int .i64 5] 121)).drew.heap.size (w.alloc (.cells #[.int .i64 10, .int .i64 (-24), .int .i64 5] 121)).drew wy → Cells3 wy w.heap.size 10 (-24) 5) := Lib.hid (fun wy hb => ⟨(hb.cell (p := ⟨w.heap.size, 0, none⟩) (by simp)).trans HC.out.1, (hb.cell (p := ⟨w.heap.size, 1, none⟩) (by simp)).trans HC.out.2.1, (hb.cell (p := ⟨w.heap.size, 2, none⟩) (by simp)).trans HC.out.2.2⟩)
  clear hb0
  have q1 : IntKind.u64.wrap 1024 = 1024 := by kernel_rfl
  have q2 : IntKind.u64.wrap (32768 - 1024) = 31744 := by kernel_rfl
  go_region_held3 (fun w' => w'.cell? ⟨w.heap.size, 0, none⟩ = some (.int .i64 10) ∧ w'.cell? ⟨w.heap.size, 1, none⟩ = some (.int .i64 (-24)) ∧ w'.cell? ⟨w.heap.size, 2, none⟩ = some (.int .i64 5))
    (first | exact HC.out | exact HKEEP.out _ B1.out)
    (first
      | (go_at_call 121; refine (HS.out _).mono ?_; rintro e w1 ⟨rfl, hb1⟩; have B1 := Lib.hid hb1; clear hb1))
  go_wp2_with fail
  go_ret
  exact ⟨rfl, (below_drewN' ((Below.refl w.heap.size w).alloc (Nat.le_refl _) _) 1).trans (B1.out.mono (by simp))⟩
theorem two_C : (32768 : Nat) = 2 ^ 15 := by decide
set_option maxRecDepth 100000 in
theorem split_C (x : Nat) (hx : x < 65536) (w : World) (hT : Tabs0 w) :
    Calls Tryd.prog 114 #[.int .u16 x] w fun e w' => e = .returned (.tuple #[.bool (decide (32768 ≤ x)), .int .u64 ((x % 32768 : Nat) : Int)]) ∧ Below w.heap.size w w' := by
  have HO := Lib.hid (of_C w hT)
  have HS := Lib.hid (fun wx => sign_C wx)
  obtain ⟨c1, c2⟩ := cut_sign 15 x 32768 (by decide) two_C (by omega)
  rw [show ((32768 : Nat) : Int) = 32768 from rfl] at c1 c2
  have C1 := Lib.hid c1
  have C2 := Lib.hid c2
  have hw : IntKind.u64.wrap (x : Int) = x := IntWalk.u64_in _ (by omega)
  clear hT c1 c2
  go_enter Tryd.func114, Tryd.ntmps114
  go_wp2_with fail
  refine HO.out.mono ?_
  rintro e w1 ⟨rfl, hb1⟩
  have B1 := Lib.hid hb1
  clear hb1
  go_wp2_with fail
  refine (HS.out _).mono ?_
  rintro e w2 ⟨rfl, hb2⟩
  have B2 := Lib.hid hb2
  have c1 := C1.out
  have c2 := C2.out
  clear hb2
  go_wp2_with fail
  go_ret2
  exact ⟨rfl, B1.out.trans (B2.out.mono B1.out.size)⟩
set_option maxRecDepth 100000 in
theorem signed_C (neg : Bool) (s : Nat) (hs : s < 32768) (w : World) (hT : Tabs0 w) :
    Calls Tryd.prog 117 #[.bool neg, .int .u64 s] w fun e w' => e = .returned (.int .u16 (sgnN neg s 32768 : Nat)) ∧ Below w.heap.size w w' := by
  cases neg with
  | false =>
    have hw : IntKind.u16.wrap (s : Int) = s := IntWalk.u16_in _ (by omega)
    clear hT
    go_enter Tryd.func117, Tryd.ntmps117
    go_wp2_with fail
    go_ret
    exact ⟨rfl, Below.refl _ _⟩
  | true =>
    have HO := Lib.hid (of_C w hT)
    have HS := Lib.hid (fun wx => sign_C wx)
    have c1 := put_sign 15 32768 s (by decide) two_C hs
    rw [show ((32768 : Nat) : Int) = 32768 from rfl] at c1
    have C1 := Lib.hid c1
    obtain ⟨z, hz⟩ : ∃ z, s + 32768 = z := ⟨_, rfl⟩
    have HZ := Lib.hid hz
    rw [hz] at C1
    have hw : IntKind.u16.wrap (z : Int) = z := IntWalk.u16_in _ (by omega)
    clear hT c1 hz
    go_enter Tryd.func117, Tryd.ntmps117
    go_wp2_with fail
    refine HO.out.mono ?_
    rintro e w1 ⟨rfl, hb1⟩
    have B1 := Lib.hid hb1
    clear hb1
    go_wp2_with fail
    refine (HS.out _).mono ?_
    rintro e w2 ⟨rfl, hb2⟩
    have B2 := Lib.hid hb2
    have c1 := C1.out
    clear hb2
    go_wp2_with fail
    go_ret
    exact ⟨ret_int' (k := .u16) (a := (z : Int)) (by have := HZ.out; unfold sgnN; rw [if_pos rfl]; omega), B1.out.trans (B2.out.mono B1.out.size)⟩
set_option maxRecDepth 100000 in
set_option maxHeartbeats 2000000 in
theorem parts_C (x : Nat) (hx : x < 65536) (w : World) (hT : Tabs w) :
    Calls Tryd.prog 69 #[.int .u16 x] w (PartsPost 10 24 31744 (decide (32768 ≤ x)) (x % 32768) w) := by
  have HO := Lib.hid (of_C w hT)
  have HSP := Lib.hid (fun wx (hb : Below w.heap.size w wx) => split_C x hx wx (hT.below hb))
  have HI := Lib.hid (fun wx => inf_C wx)
  have HTB := Lib.hid (fun wx (hb : Below w.heap.size w wx) => hT.below hb)
  have hsz : x % 32768 < 32768 := Nat.mod_lt _ (by decide)
  generalize x % 32768 = sz at *
  have hc5 : Hid (∀ (wx : World) (o : Obj), True) := Lib.hid (fun _ _ => trivial)
  clear hT
  go_enter Tryd.func69, Tryd.ntmps69
  go_wp2_with fail
  refine HO.out.mono ?_
  rintro e w1 ⟨rfl, hb1⟩
  have B1 := Lib.hid hb1
  have hbk := Blk.new w1 121 #[.int .i64 10, .int .i64 (-24), .int .i64 5]
  have HC1 : Hid (Cells3 (w1.alloc (.cells #[.int .i64 10, .int .i64 (-24), .int .i64 5] 121)) w1.heap.size 10 (-24) 5) := Lib.hid ⟨by rw [hbk.cell 0] <;> rfl, by rw [hbk.cell 1] <;> rfl, by rw [hbk.cell 2] <;> rfl⟩
  have HB1 : Hid (Below w.heap.size w (w1.alloc (.cells #[.int .i64 10, .int .i64 (-24), .int .i64 5] 121))) := Lib.hid (hb1.alloc hb1.size _)
  have hlt : w1.heap.size < (w1.alloc (.cells #[.int .i64 10, .int .i64 (-24), .int .i64 5] 121)).heap.size := by simp
  clear hb1 hbk
  unfold shpV
  go_wp2_with fail
  refine (HSP.out _ HB1.out).mono ?_
  rintro e w2 ⟨rfl, hb2⟩
  have HC2 : Hid (Cells3 w2 w1.heap.size 10 (-24) 5) := Lib.hid ⟨(hb2.cell (p := ⟨w1.heap.size, 0, none⟩) hlt).trans HC1.out.1, (hb2.cell (p := ⟨w1.heap.size, 1, none⟩) hlt).trans HC1.out.2.1, (hb2.cell (p := ⟨w1.heap.size, 2, none⟩) hlt).trans HC1.out.2.2⟩
  have HB2 : Hid (Below w.heap.size w w2) := Lib.hid (HB1.out.trans (hb2.mono HB1.out.size))
  have hlt2 : w1.heap.size < w2.heap.size := Nat.lt_of_lt_of_le hlt hb2.size
  clear hb2 hlt HC1 HB1 B1 HO HSP hc5
  generalize w1.heap.size = b at *
  obtain ⟨c0, c1, c2⟩ := HC2.out
  go_wp2_with fail
  refine (HI.out _).mono ?_
  rintro e w3 ⟨rfl, hb3⟩
  have HC3 : Hid (Cells3 w3 b 10 (-24) 5) := Lib.hid ⟨(hb3.cell (p := ⟨b, 0, none⟩) hlt2).trans c0, (hb3.cell (p := ⟨b, 1, none⟩) hlt2).trans c1, (hb3.cell (p := ⟨b, 2, none⟩) hlt2).trans c2⟩
  have HB3 : Hid (Below w.heap.size w w3) := Lib.hid (HB2.out.trans (hb3.mono HB2.out.size))
  clear hb3 c0 c1 c2 HC2 HB2 HI hlt2
  generalize decide (32768 ≤ x) = neg at *
  by_cases hinf : 31744 ≤ sz
  · have hinfI : (31744 : Int) ≤ (sz : Int) := by omega
    go_wp2_with fail
    exact bodyPost_ret (v := .tuple #[.bool false, .int .u64 0, .int .i64 0, .bool false]) (by simp [results, Tryd.results69, go_sem]) rfl ⟨HB3.out, .inl ⟨hinf, rfl⟩⟩
  by_cases hz : sz = 0
  · subst hz
    clear hinf hsz
    go_wp2_with fail
    exact bodyPost_ret (v := .tuple #[.bool neg, .int .u64 0, .int .i64 0, .bool true]) (by simp [results, Tryd.results69, go_sem]) rfl ⟨HB3.out, .inr (.inl ⟨rfl, rfl⟩)⟩
  have hinfI : ¬ (31744 : Int) ≤ (sz : Int) := by omega
  have hzI : ((sz : Int) == 0) = false := by rw [beq_eq_false_iff_ne]; omega
  obtain ⟨c0, c1, c2⟩ := HC3.out
  have HSZ := Lib.hid hsz
  have HINF := Lib.hid hinf
  have HZ := Lib.hid hz
  obtain ⟨zi, hzi⟩ : ∃ zi : Int, (sz : Int) = zi := ⟨_, rfl⟩
  have HZI := Lib.hid hzi
  rw [hzi] at hinfI hzI ⊢
  have z0 : 0 ≤ zi := by omega
  clear hzi hsz hinf hz
  go_wp2_with fail
  go_quiet (fail)
  have hsz := HSZ.out
  have hinf := HINF.out
  have hz := HZ.out
  have hzi := HZI.out
  have HB4 : Hid (∀ n, Below w.heap.size w (w3.drewN n)) := Lib.hid (fun n => below_drewN' HB3.out n)
  have hk := Nat.div_add_mod sz 1024
  have hr : sz % 1024 < 1024 := Nat.mod_lt _ (by decide)
  have hdk : zi / 1024 = ((sz / 1024 : Nat) : Int) := by rw [← hzi]; rfl
  have hkb : sz / 1024 < 4096 := by omega
  have hmask : bits .and .u64 zi 1023 = ((sz % 1024 : Nat) : Int) := by
    rw [← hzi]
    have := u64_and_nat sz 1023 (by omega) (by decide)
    rw [show sz &&& 1023 = sz % 1024 from Nat.and_two_pow_sub_one_eq_mod sz 10] at this
    exact this
  have hor := put_sign 10 1024 (sz % 1024) (by decide) (by decide) hr
  rw [show ((1024 : Nat) : Int) = 1024 from rfl] at hor
  have hpv : pv 10 sz = if sz < 1024 then sz else (1024 + sz % 1024) * 2 ^ (sz / 1024 - 1) := by
    unfold pv
    rw [show (2 : Nat) ^ 10 = 1024 from by decide]
  have HPV := Lib.hid hpv
  clear hpv
  generalize sz / 1024 = k at *
  generalize sz % 1024 = r at *
  by_cases hk0 : k = 0
  · subst hk0
    have hpv : pv 10 sz = sz := by rw [HPV.out, if_pos (by omega)]
    obtain ⟨u, t, hut⟩ := odd_part sz (by omega)
    have htb := t_lt t u 64 (by rw [← hut]; omega)
    have htz := fun wx (hb : Below w.heap.size w wx) => tz64_any t u sz hut (by omega) wx (HTB.out _ hb)
    have HTZ := Lib.hid htz
    obtain ⟨hdv, hub⟩ := odd_shift sz u t hut
    clear htz
    have HPVS : Hid ((2 * u + 1) * 2 ^ t = pv 10 sz) := Lib.hid (by rw [hpv, hut])
    have HT64 := Lib.hid hut
    have hkI : (((0 : Nat) : Int)) = 0 := rfl
    rw [hzi] at HTZ hdv
    clear hut hpv hk hmask hor hsz hinf hz hzi
    go_wp2_with fail
    refine (HTZ.out _ (HB4.out _)).mono ?_
    rintro e w5 ⟨rfl, rfl⟩
    have e1 : IntKind.i64.wrap (-24 + (t : Int)) = -24 + (t : Int) := IntWalk.i64_in _ (by omega)
    have e2 : (0 : Int) ≤ (t : Int) := by omega
    have e3 : (t : Int) < 64 := by omega
    go_wp2_with fail
    go_quiet (fail)
    go_wp2_with fail
    exact bodyPost_ret (v := .tuple #[.bool neg, .int .u64 ((2 * u + 1 : Nat) : Int), .int .i64 ((t : Int) - 24), .bool true]) (by simp [results, Tryd.results69, go_sem]; omega) rfl ⟨by first | exact HB4.out _ | exact below_drewN' (HB4.out _) _, .inr (.inr ⟨by have := HINF.out; omega, HZ.out, u, t, rfl, HPVS.out⟩)⟩
  · have hsge : 1024 ≤ sz := by
      rcases Nat.eq_zero_or_pos k with h | h
      · exact absurd h hk0
      · have : 1024 * 1 ≤ 1024 * k := Nat.mul_le_mul_left _ h
        omega
    have hpv : pv 10 sz = (1024 + r) * 2 ^ (k - 1) := by rw [HPV.out, if_neg (by omega)]
    obtain ⟨m0, hm0⟩ : ∃ m0, r + 1024 = m0 := ⟨_, rfl⟩
    rw [hm0] at hor
    obtain ⟨u, t, hut⟩ := odd_part m0 (by omega)
    have htb := t_lt t u 64 (by rw [← hut]; omega)
    have htz := fun wx (hb : Below w.heap.size w wx) => tz64_any t u m0 hut (by omega) wx (HTB.out _ hb)
    have HTZ := Lib.hid htz
    obtain ⟨hdv, hub⟩ := odd_shift m0 u t hut
    have HPVS : Hid ((2 * u + 1) * 2 ^ (k - 1 + t) = pv 10 sz) := Lib.hid (by
      rw [hpv, Nat.add_comm (1024) r, hm0, hut, Nat.pow_add, Nat.mul_assoc, Nat.mul_comm (2 ^ t)])
    have hkI : (0 : Int) < (k : Int) := by omega
    have q1 : IntKind.u64.wrap 1024 = 1024 := by kernel_rfl
    have q3 : IntKind.u64.wrap (1024 - 1) = 1023 := by kernel_rfl
    have HC4 : Hid (∀ n, Cells3 (w3.drewN n) b 10 (-24) 5) := Lib.hid (fun n => HC3.out)
    have hkb2 : (k : Int) < 4096 := by omega
    obtain ⟨mi, hmi⟩ : ∃ mi : Int, (m0 : Int) = mi := ⟨_, rfl⟩
    rw [hmi] at hor HTZ hdv
    have hmi0 : 0 ≤ mi := by omega
    clear htz hut hpv hk hsz hinf hz hzi hm0 hsge hr hmi hub
    go_wp2_with fail
    go_quiet (fail)
    clear q1 q3 hmask hor
    go_wp2_with fail
    refine (HTZ.out _ (HB4.out _)).mono ?_
    rintro e w5 ⟨rfl, rfl⟩
    have e1 : IntKind.i64.wrap (-24 + ((k : Int) - 1) + (t : Int)) = -24 + ((k : Int) - 1) + (t : Int) := IntWalk.i64_in _ (by omega)
    have e2 : (0 : Int) ≤ (t : Int) := by omega
    have e3 : (t : Int) < 64 := by omega
    go_wp2_with fail
    go_quiet (fail)
    go_wp2_with fail
    exact bodyPost_ret (v := .tuple #[.bool neg, .int .u64 ((2 * u + 1 : Nat) : Int), .int .i64 (((k - 1 + t : Nat) : Int) - 24), .bool true]) (by simp [results, Tryd.results69, go_sem]; omega) rfl ⟨by first | exact HB4.out _ | exact below_drewN' (HB4.out _) _, .inr (.inr ⟨by have := HINF.out; omega, HZ.out, u, k - 1 + t, rfl, HPVS.out⟩)⟩
end Go.Proofs.YtgckfilmhnapeaaDoor
