/- Contracts of utf.First, utf.Bad. -/
import Derived.Test.YtiignmjglihbnaaDoorFirst0
namespace Go.Proofs.YtiignmjglihbnaaDoor
open Go.RowKit

theorem w64 (n : Int) (h0 : 0 ≤ n) (h : n < 9223372036854775808) : wrap64 n = n := by
  unfold wrap64
  omega
theorem band {c : Nat} (hc : c < 256) (m : Nat) (hm : m < 256) : bits .and .u8 (c : Int) (m : Int) = ((c &&& m : Nat) : Int) := u8_and_nat c m hc hm
theorem beq_nat (a b : Nat) : (((a : Nat) : Int) == (b : Int)) = (a == b) := by
  rw [Bool.eq_iff_iff, beq_iff_eq, beq_iff_eq]; omega
theorem racc_succ (b : Nat → Nat) (i r0 m : Nat) : racc b i r0 (m + 1) = racc b i r0 m * 64 + (b (i + 1 + m) - 128) := rfl

set_option maxRecDepth 100000 in
theorem first_one (s : ByteArray) (i : Nat) (hi : i < s.size) (h : bt s i < 128) (w : World) :
    Calls Tryd.prog 30 #[.string s, .int .i64 i] w (FirstPost (bt s) i w) := by
  have hn : nx (bt s) i = 1 := by unfold nx; rw [if_pos h]
  have HN := Lib.hid hn
  rw [bt_in hi] at h
  have h1 : (s[i].toNat : Int) < 128 := by omega
  have h3 : ¬ s.size ≤ i := by omega
  have h0 : 0 ≤ (i : Int) := by omega
  clear hn h
  go_enter Tryd.func30, Tryd.ntmps30
  go_wp2_with fail
  go_ret3
  exact first_out HN.out (s[i].toNat) (by rfl) rfl

set_option maxRecDepth 100000 in
theorem first_bad (s : ByteArray) (i : Nat) (hi : i < s.size) (h : 128 ≤ bt s i) (h' : bt s i < 192 ∨ 248 ≤ bt s i) (w : World) :
    Calls Tryd.prog 30 #[.string s, .int .i64 i] w (FirstPost (bt s) i w) := by
  have HN := Lib.hid (nx1n (bt s) i h h')
  have hc := bt_lt hi
  rw [bt_in hi] at h h' hc
  have q1 : (bits .and .u8 (s[i].toNat : Int) 224 == 192) = false := by
    rw [show (224 : Int) = ((224 : Nat) : Int) from rfl, band hc 224 (by omega), show (192 : Int) = ((192 : Nat) : Int) from rfl, beq_nat, and_224 _ hc]; exact decide_eq_false (by omega)
  have q2 : (bits .and .u8 (s[i].toNat : Int) 240 == 224) = false := by
    rw [show (240 : Int) = ((240 : Nat) : Int) from rfl, band hc 240 (by omega), show (224 : Int) = ((224 : Nat) : Int) from rfl, beq_nat, and_240 _ hc]; exact decide_eq_false (by omega)
  have q3 : (bits .and .u8 (s[i].toNat : Int) 248 == 240) = false := by
    rw [show (248 : Int) = ((248 : Nat) : Int) from rfl, band hc 248 (by omega), show (240 : Int) = ((240 : Nat) : Int) from rfl, beq_nat, and_248 _ hc]; exact decide_eq_false (by omega)
  have h1 : 128 ≤ (s[i].toNat : Int) := by omega
  have h3 : ¬ s.size ≤ i := by omega
  have h0 : 0 ≤ (i : Int) := by omega
  clear h h' hc
  go_enter Tryd.func30, Tryd.ntmps30
  go_wp2_with fail
  go_ret3
  exact first_out HN.out 0 (by rfl) rfl

set_option maxRecDepth 100000 in
set_option maxHeartbeats 1000000 in
theorem first_2 (s : ByteArray) (i : Nat) (hi : i < s.size) (hs : s.size ≤ 140737488355328) (h : 192 ≤ bt s i) (h' : bt s i < 224) (w : World) :
    Calls Tryd.prog 30 #[.string s, .int .i64 i] w (FirstPost (bt s) i w) := by
  have HY := Lib.hid (nx2 (bt s) i h h')
  have HX := Lib.hid (nx2n (bt s) i h h')
  have hc := bt_lt hi
  have HBI := Lib.hid (bt_in hi)
  obtain ⟨r0, hr0⟩ : ∃ r0, r0 = bt s i - 192 := ⟨_, rfl⟩
  rw [← hr0] at HY
  rw [bt_in hi] at h h' hc hr0
  have q1 : (bits .and .u8 (s[i].toNat : Int) 224 == 192) = true := by
    rw [show (224 : Int) = ((224 : Nat) : Int) from rfl, band hc 224 (by omega), show (192 : Int) = ((192 : Nat) : Int) from rfl, beq_nat, and_224 _ hc]; exact decide_eq_true (by omega)
  have e1 : bits .and .u8 (s[i].toNat : Int) 31 = (r0 : Int) := by
    rw [show (31 : Int) = ((31 : Nat) : Int) from rfl, band hc 31 (by omega), and_31 _ hc (by omega) (by omega), hr0]
  have r1 : r0 < 32 := by omega
  have e2 : wrap32 (r0 : Int) = (r0 : Int) := by unfold wrap32; omega
  have h1 : 128 ≤ (s[i].toNat : Int) := by omega
  have h3 : ¬ s.size ≤ i := by omega
  have h0 : 0 ≤ (i : Int) := by omega
  clear h h' hc hr0
  have hsi : (s.size : Int) ≤ 140737488355328 := by omega
  have SZ := Lib.hid hsi
  have HI := Lib.hid hi
  clear hs hsi
  go_enter Tryd.func30, Tryd.ntmps30
  go_wp2_with fail
  go_loopw [4, 5, 9] (fun v4 v5 v9 wr => FRel (bt s) i r0 2 w v4 v5 v9 wr) (fun _ _ v9 _ => 2 - (intOf v9).toNat)
  case atStart => exact ⟨0, by omega, rfl, rfl, rfl, by show r0 < 32 * 64 ^ 0; omega, fun t ht => absurd ht (by omega), rfl⟩
  case round =>
    obtain ⟨m, hm, rfl, rfl, rfl, hR, hk, rfl⟩ := hrel
    have HK := Lib.hid hk
    clear hk
    by_cases hlt : m + 1 < 2
    · have hp : 64 ^ m ≤ 64 ^ 2 := Nat.pow_le_pow_right (by decide) (by omega)
      have hR2 : racc (bt s) i r0 m < 131072 := by omega
      have HR := Lib.hid hR
      obtain ⟨kk, hkk⟩ : ∃ kk, kk = i + 1 + m := ⟨_, rfl⟩
      have wb : (i : Int) + ((m : Int) + 1) = (kk : Int) := by omega
      have kb : (kk : Int) < 9223372036854775808 := by have := SZ.out; have := HI.out; omega
      have k0 : 0 ≤ (kk : Int) := by omega
      have WA : Hid (wrap64 ((i : Int) + ((m : Int) + 1)) = (kk : Int)) := Lib.hid (by rw [wb]; exact w64 _ k0 kb)
      have WA2 : Hid (wrap64 (kk : Int) = (kk : Int)) := Lib.hid (w64 _ k0 kb)
      have WA3 : Hid (IntKind.i64.wrap (kk : Int) = (kk : Int)) := Lib.hid (IntWalk.i64_in _ (by omega))
      clear kb
      have HS : Hid (racc (bt s) i r0 (m + 1) = racc (bt s) i r0 m * 64 + (bt s kk - 128)) := Lib.hid (by rw [hkk]; exact racc_succ (bt s) i r0 m)
      have FA := follow_any s kk w
      by_cases hf : cont (bt s kk) = true
      · have hg := (cont_iff _).1 hf
        have hfo : folN (bt s kk) = bt s kk - 128 := by unfold folN; rw [if_pos hf]
        rw [hf, hfo] at FA
        have HF := Lib.hid (hkk ▸ hf)
        have FAH := Lib.hid FA
        have hR3 : racc (bt s) i r0 (m + 1) < 32 * 64 ^ (m + 1) := by rw [HS.out, Nat.pow_succ]; generalize 64 ^ m = z at *; omega
        have HR3 := Lib.hid hR3
        have hb1 : bt s kk - 128 < 64 := by omega
        have j1 := i32_join (racc (bt s) i r0 m) (bt s kk - 128) (by omega) hb1
        have w1 : wrap32 ((racc (bt s) i r0 m : Int) * 64) = (racc (bt s) i r0 m : Int) * 64 := by unfold wrap32; omega
        clear hf hg hfo FA hR3 hR hp hkk
        generalize bt s kk - 128 = y at *
        generalize racc (bt s) i r0 m = R at *
        have wa := WA.out
        have wa2 := WA2.out
        have wa3 := WA3.out
        go_wp2_with fail
        refine FAH.out.mono ?_
        rintro e w' ⟨rfl, rfl⟩
        go_wp2_with fail
        go_roundw
        case rel => exact ⟨m + 1, by omega, by go_num, rfl, by rw [HS.out] <;> go_num, HR3.out, fun t ht => by
          by_cases g : t < m
          · exact HK.out t g
          · obtain rfl : t = m := by omega
            exact HF.out, rfl⟩
        case measure => simp [intOf]; omega
      · have hf' : cont (bt s kk) = false := by simpa using hf
        have hfo : folN (bt s kk) = 0 := by unfold folN; rw [if_neg hf]
        rw [hf', hfo] at FA
        have FAH := Lib.hid FA
        have HN : Hid (nx (bt s) i = 0) := Lib.hid (HX.out (by
          rw [hkk] at hf'
          have hm' : m = 0 := by omega
          rcases hm' with rfl
          exact (by assumption)))
        clear hf hf' hfo FA hR hp hkk
        have wa := WA.out
        have wa2 := WA2.out
        have wa3 := WA3.out
        go_wp2_with fail
        refine FAH.out.mono ?_
        rintro e w' ⟨rfl, rfl⟩
        go_wp2_with fail
        go_ret3
        exact first_out HN.out 0 (by rfl) rfl
    · obtain rfl : m = 1 := by omega
      have hc1 := fun t ht => HK.out t ht
      have hN := HY.out (HK.out 0 (by omega))
      have HN := Lib.hid hN
      have PT := Lib.hid (point_any (racc (bt s) i r0 1))
      clear hc1 hN hR HK hlt hm
      generalize racc (bt s) i r0 1 = R at *
      by_cases hl : R < 128
      · have hl' : (R : Int) < 128 := by omega
        have HN2 : Hid (nx (bt s) i = 0) := Lib.hid (by rw [HN.out, if_pos (Or.inl hl)])
        clear hl
        go_wp2_with fail
        go_ret3
        exact first_out HN2.out 0 (by rfl) rfl
      · have hl' : decide ((R : Int) < 128) = false := decide_eq_false (by omega)
        by_cases hp : isPt R = true
        · have HN2 : Hid (nx (bt s) i = 2) := Lib.hid (by rw [HN.out, if_neg (by rw [hp]; simp; omega)])
          rw [hp] at PT
          clear hl hp
          go_wp2_with fail
          refine (PT.out _).mono ?_
          rintro e w' ⟨rfl, rfl⟩
          go_wp2_with fail
          go_ret3
          exact first_out HN2.out R (by rfl) rfl
        · have hp' : isPt R = false := by simpa using hp
          have HN2 : Hid (nx (bt s) i = 0) := Lib.hid (by rw [HN.out, if_pos (Or.inr hp')])
          rw [hp'] at PT
          clear hl hp hp'
          go_wp2_with fail
          refine (PT.out _).mono ?_
          rintro e w' ⟨rfl, rfl⟩
          go_wp2_with fail
          go_ret3
          exact first_out HN2.out 0 (by rfl) rfl

set_option maxRecDepth 100000 in
set_option maxHeartbeats 1000000 in
theorem first_3 (s : ByteArray) (i : Nat) (hi : i < s.size) (hs : s.size ≤ 140737488355328) (h : 224 ≤ bt s i) (h' : bt s i < 240) (w : World) :
    Calls Tryd.prog 30 #[.string s, .int .i64 i] w (FirstPost (bt s) i w) := by
  have HY := Lib.hid (nx3 (bt s) i h h')
  have HX := Lib.hid (nx3n (bt s) i h h')
  have hc := bt_lt hi
  have HBI := Lib.hid (bt_in hi)
  obtain ⟨r0, hr0⟩ : ∃ r0, r0 = bt s i - 224 := ⟨_, rfl⟩
  rw [← hr0] at HY
  rw [bt_in hi] at h h' hc hr0
  have q1 : (bits .and .u8 (s[i].toNat : Int) 224 == 192) = false := by
    rw [show (224 : Int) = ((224 : Nat) : Int) from rfl, band hc 224 (by omega), show (192 : Int) = ((192 : Nat) : Int) from rfl, beq_nat, and_224 _ hc]; exact decide_eq_false (by omega)
  have q2 : (bits .and .u8 (s[i].toNat : Int) 240 == 224) = true := by
    rw [show (240 : Int) = ((240 : Nat) : Int) from rfl, band hc 240 (by omega), show (224 : Int) = ((224 : Nat) : Int) from rfl, beq_nat, and_240 _ hc]; exact decide_eq_true (by omega)
  have e1 : bits .and .u8 (s[i].toNat : Int) 15 = (r0 : Int) := by
    rw [show (15 : Int) = ((15 : Nat) : Int) from rfl, band hc 15 (by omega), and_15 _ hc (by omega) (by omega), hr0]
  have r1 : r0 < 32 := by omega
  have e2 : wrap32 (r0 : Int) = (r0 : Int) := by unfold wrap32; omega
  have h1 : 128 ≤ (s[i].toNat : Int) := by omega
  have h3 : ¬ s.size ≤ i := by omega
  have h0 : 0 ≤ (i : Int) := by omega
  clear h h' hc hr0
  have hsi : (s.size : Int) ≤ 140737488355328 := by omega
  have SZ := Lib.hid hsi
  have HI := Lib.hid hi
  clear hs hsi
  go_enter Tryd.func30, Tryd.ntmps30
  go_wp2_with fail
  go_loopw [4, 5, 9] (fun v4 v5 v9 wr => FRel (bt s) i r0 3 w v4 v5 v9 wr) (fun _ _ v9 _ => 3 - (intOf v9).toNat)
  case atStart => exact ⟨0, by omega, rfl, rfl, rfl, by show r0 < 32 * 64 ^ 0; omega, fun t ht => absurd ht (by omega), rfl⟩
  case round =>
    obtain ⟨m, hm, rfl, rfl, rfl, hR, hk, rfl⟩ := hrel
    have HK := Lib.hid hk
    clear hk
    by_cases hlt : m + 1 < 3
    · have hp : 64 ^ m ≤ 64 ^ 2 := Nat.pow_le_pow_right (by decide) (by omega)
      have hR2 : racc (bt s) i r0 m < 131072 := by omega
      have HR := Lib.hid hR
      obtain ⟨kk, hkk⟩ : ∃ kk, kk = i + 1 + m := ⟨_, rfl⟩
      have wb : (i : Int) + ((m : Int) + 1) = (kk : Int) := by omega
      have kb : (kk : Int) < 9223372036854775808 := by have := SZ.out; have := HI.out; omega
      have k0 : 0 ≤ (kk : Int) := by omega
      have WA : Hid (wrap64 ((i : Int) + ((m : Int) + 1)) = (kk : Int)) := Lib.hid (by rw [wb]; exact w64 _ k0 kb)
      have WA2 : Hid (wrap64 (kk : Int) = (kk : Int)) := Lib.hid (w64 _ k0 kb)
      have WA3 : Hid (IntKind.i64.wrap (kk : Int) = (kk : Int)) := Lib.hid (IntWalk.i64_in _ (by omega))
      clear kb
      have HS : Hid (racc (bt s) i r0 (m + 1) = racc (bt s) i r0 m * 64 + (bt s kk - 128)) := Lib.hid (by rw [hkk]; exact racc_succ (bt s) i r0 m)
      have FA := follow_any s kk w
      by_cases hf : cont (bt s kk) = true
      · have hg := (cont_iff _).1 hf
        have hfo : folN (bt s kk) = bt s kk - 128 := by unfold folN; rw [if_pos hf]
        rw [hf, hfo] at FA
        have HF := Lib.hid (hkk ▸ hf)
        have FAH := Lib.hid FA
        have hR3 : racc (bt s) i r0 (m + 1) < 32 * 64 ^ (m + 1) := by rw [HS.out, Nat.pow_succ]; generalize 64 ^ m = z at *; omega
        have HR3 := Lib.hid hR3
        have hb1 : bt s kk - 128 < 64 := by omega
        have j1 := i32_join (racc (bt s) i r0 m) (bt s kk - 128) (by omega) hb1
        have w1 : wrap32 ((racc (bt s) i r0 m : Int) * 64) = (racc (bt s) i r0 m : Int) * 64 := by unfold wrap32; omega
        clear hf hg hfo FA hR3 hR hp hkk
        generalize bt s kk - 128 = y at *
        generalize racc (bt s) i r0 m = R at *
        have wa := WA.out
        have wa2 := WA2.out
        have wa3 := WA3.out
        go_wp2_with fail
        refine FAH.out.mono ?_
        rintro e w' ⟨rfl, rfl⟩
        go_wp2_with fail
        go_roundw
        case rel => exact ⟨m + 1, by omega, by go_num, rfl, by rw [HS.out] <;> go_num, HR3.out, fun t ht => by
          by_cases g : t < m
          · exact HK.out t g
          · obtain rfl : t = m := by omega
            exact HF.out, rfl⟩
        case measure => simp [intOf]; omega
      · have hf' : cont (bt s kk) = false := by simpa using hf
        have hfo : folN (bt s kk) = 0 := by unfold folN; rw [if_neg hf]
        rw [hf', hfo] at FA
        have FAH := Lib.hid FA
        have HN : Hid (nx (bt s) i = 0) := Lib.hid (HX.out (by
          rw [hkk] at hf'
          have hm' : m = 0 ∨ m = 1 := by omega
          rcases hm' with rfl | rfl
          all_goals first | exact Or.inl (by assumption) | exact Or.inr (by assumption) | exact Or.inr (Or.inl (by assumption)) | exact Or.inr (Or.inr (by assumption))))
        clear hf hf' hfo FA hR hp hkk
        have wa := WA.out
        have wa2 := WA2.out
        have wa3 := WA3.out
        go_wp2_with fail
        refine FAH.out.mono ?_
        rintro e w' ⟨rfl, rfl⟩
        go_wp2_with fail
        go_ret3
        exact first_out HN.out 0 (by rfl) rfl
    · obtain rfl : m = 2 := by omega
      have hc1 := fun t ht => HK.out t ht
      have hN := HY.out (HK.out 0 (by omega)) (HK.out 1 (by omega))
      have HN := Lib.hid hN
      have PT := Lib.hid (point_any (racc (bt s) i r0 2))
      clear hc1 hN hR HK hlt hm
      generalize racc (bt s) i r0 2 = R at *
      by_cases hl : R < 2048
      · have hl' : (R : Int) < 2048 := by omega
        have HN2 : Hid (nx (bt s) i = 0) := Lib.hid (by rw [HN.out, if_pos (Or.inl hl)])
        clear hl
        go_wp2_with fail
        go_ret3
        exact first_out HN2.out 0 (by rfl) rfl
      · have hl' : decide ((R : Int) < 2048) = false := decide_eq_false (by omega)
        by_cases hp : isPt R = true
        · have HN2 : Hid (nx (bt s) i = 3) := Lib.hid (by rw [HN.out, if_neg (by rw [hp]; simp; omega)])
          rw [hp] at PT
          clear hl hp
          go_wp2_with fail
          refine (PT.out _).mono ?_
          rintro e w' ⟨rfl, rfl⟩
          go_wp2_with fail
          go_ret3
          exact first_out HN2.out R (by rfl) rfl
        · have hp' : isPt R = false := by simpa using hp
          have HN2 : Hid (nx (bt s) i = 0) := Lib.hid (by rw [HN.out, if_pos (Or.inr hp')])
          rw [hp'] at PT
          clear hl hp hp'
          go_wp2_with fail
          refine (PT.out _).mono ?_
          rintro e w' ⟨rfl, rfl⟩
          go_wp2_with fail
          go_ret3
          exact first_out HN2.out 0 (by rfl) rfl

set_option maxRecDepth 100000 in
set_option maxHeartbeats 1000000 in
theorem first_4 (s : ByteArray) (i : Nat) (hi : i < s.size) (hs : s.size ≤ 140737488355328) (h : 240 ≤ bt s i) (h' : bt s i < 248) (w : World) :
    Calls Tryd.prog 30 #[.string s, .int .i64 i] w (FirstPost (bt s) i w) := by
  have HY := Lib.hid (nx4 (bt s) i h h')
  have HX := Lib.hid (nx4n (bt s) i h)
  have hc := bt_lt hi
  have HBI := Lib.hid (bt_in hi)
  obtain ⟨r0, hr0⟩ : ∃ r0, r0 = bt s i - 240 := ⟨_, rfl⟩
  rw [← hr0] at HY
  rw [bt_in hi] at h h' hc hr0
  have q1 : (bits .and .u8 (s[i].toNat : Int) 224 == 192) = false := by
    rw [show (224 : Int) = ((224 : Nat) : Int) from rfl, band hc 224 (by omega), show (192 : Int) = ((192 : Nat) : Int) from rfl, beq_nat, and_224 _ hc]; exact decide_eq_false (by omega)
  have q2 : (bits .and .u8 (s[i].toNat : Int) 240 == 224) = false := by
    rw [show (240 : Int) = ((240 : Nat) : Int) from rfl, band hc 240 (by omega), show (224 : Int) = ((224 : Nat) : Int) from rfl, beq_nat, and_240 _ hc]; exact decide_eq_false (by omega)
  have q3 : (bits .and .u8 (s[i].toNat : Int) 248 == 240) = true := by
    rw [show (248 : Int) = ((248 : Nat) : Int) from rfl, band hc 248 (by omega), show (240 : Int) = ((240 : Nat) : Int) from rfl, beq_nat, and_248 _ hc]; exact decide_eq_true (by omega)
  have e1 : bits .and .u8 (s[i].toNat : Int) 7 = (r0 : Int) := by
    rw [show (7 : Int) = ((7 : Nat) : Int) from rfl, band hc 7 (by omega), and_7 _ hc (by omega) (by omega), hr0]
  have r1 : r0 < 32 := by omega
  have e2 : wrap32 (r0 : Int) = (r0 : Int) := by unfold wrap32; omega
  have h1 : 128 ≤ (s[i].toNat : Int) := by omega
  have h3 : ¬ s.size ≤ i := by omega
  have h0 : 0 ≤ (i : Int) := by omega
  clear h h' hc hr0
  have hsi : (s.size : Int) ≤ 140737488355328 := by omega
  have SZ := Lib.hid hsi
  have HI := Lib.hid hi
  clear hs hsi
  go_enter Tryd.func30, Tryd.ntmps30
  go_wp2_with fail
  go_loopw [4, 5, 9] (fun v4 v5 v9 wr => FRel (bt s) i r0 4 w v4 v5 v9 wr) (fun _ _ v9 _ => 4 - (intOf v9).toNat)
  case atStart => exact ⟨0, by omega, rfl, rfl, rfl, by show r0 < 32 * 64 ^ 0; omega, fun t ht => absurd ht (by omega), rfl⟩
  case round =>
    obtain ⟨m, hm, rfl, rfl, rfl, hR, hk, rfl⟩ := hrel
    have HK := Lib.hid hk
    clear hk
    by_cases hlt : m + 1 < 4
    · have hp : 64 ^ m ≤ 64 ^ 2 := Nat.pow_le_pow_right (by decide) (by omega)
      have hR2 : racc (bt s) i r0 m < 131072 := by omega
      have HR := Lib.hid hR
      obtain ⟨kk, hkk⟩ : ∃ kk, kk = i + 1 + m := ⟨_, rfl⟩
      have wb : (i : Int) + ((m : Int) + 1) = (kk : Int) := by omega
      have kb : (kk : Int) < 9223372036854775808 := by have := SZ.out; have := HI.out; omega
      have k0 : 0 ≤ (kk : Int) := by omega
      have WA : Hid (wrap64 ((i : Int) + ((m : Int) + 1)) = (kk : Int)) := Lib.hid (by rw [wb]; exact w64 _ k0 kb)
      have WA2 : Hid (wrap64 (kk : Int) = (kk : Int)) := Lib.hid (w64 _ k0 kb)
      have WA3 : Hid (IntKind.i64.wrap (kk : Int) = (kk : Int)) := Lib.hid (IntWalk.i64_in _ (by omega))
      clear kb
      have HS : Hid (racc (bt s) i r0 (m + 1) = racc (bt s) i r0 m * 64 + (bt s kk - 128)) := Lib.hid (by rw [hkk]; exact racc_succ (bt s) i r0 m)
      have FA := follow_any s kk w
      by_cases hf : cont (bt s kk) = true
      · have hg := (cont_iff _).1 hf
        have hfo : folN (bt s kk) = bt s kk - 128 := by unfold folN; rw [if_pos hf]
        rw [hf, hfo] at FA
        have HF := Lib.hid (hkk ▸ hf)
        have FAH := Lib.hid FA
        have hR3 : racc (bt s) i r0 (m + 1) < 32 * 64 ^ (m + 1) := by rw [HS.out, Nat.pow_succ]; generalize 64 ^ m = z at *; omega
        have HR3 := Lib.hid hR3
        have hb1 : bt s kk - 128 < 64 := by omega
        have j1 := i32_join (racc (bt s) i r0 m) (bt s kk - 128) (by omega) hb1
        have w1 : wrap32 ((racc (bt s) i r0 m : Int) * 64) = (racc (bt s) i r0 m : Int) * 64 := by unfold wrap32; omega
        clear hf hg hfo FA hR3 hR hp hkk
        generalize bt s kk - 128 = y at *
        generalize racc (bt s) i r0 m = R at *
        have wa := WA.out
        have wa2 := WA2.out
        have wa3 := WA3.out
        go_wp2_with fail
        refine FAH.out.mono ?_
        rintro e w' ⟨rfl, rfl⟩
        go_wp2_with fail
        go_roundw
        case rel => exact ⟨m + 1, by omega, by go_num, rfl, by rw [HS.out] <;> go_num, HR3.out, fun t ht => by
          by_cases g : t < m
          · exact HK.out t g
          · obtain rfl : t = m := by omega
            exact HF.out, rfl⟩
        case measure => simp [intOf]; omega
      · have hf' : cont (bt s kk) = false := by simpa using hf
        have hfo : folN (bt s kk) = 0 := by unfold folN; rw [if_neg hf]
        rw [hf', hfo] at FA
        have FAH := Lib.hid FA
        have HN : Hid (nx (bt s) i = 0) := Lib.hid (HX.out (by
          rw [hkk] at hf'
          have hm' : m = 0 ∨ m = 1 ∨ m = 2 := by omega
          rcases hm' with rfl | rfl | rfl
          all_goals first | exact Or.inl (by assumption) | exact Or.inr (by assumption) | exact Or.inr (Or.inl (by assumption)) | exact Or.inr (Or.inr (by assumption))))
        clear hf hf' hfo FA hR hp hkk
        have wa := WA.out
        have wa2 := WA2.out
        have wa3 := WA3.out
        go_wp2_with fail
        refine FAH.out.mono ?_
        rintro e w' ⟨rfl, rfl⟩
        go_wp2_with fail
        go_ret3
        exact first_out HN.out 0 (by rfl) rfl
    · obtain rfl : m = 3 := by omega
      have hc1 := fun t ht => HK.out t ht
      have hN := HY.out (HK.out 0 (by omega)) (HK.out 1 (by omega)) (HK.out 2 (by omega))
      have HN := Lib.hid hN
      have PT := Lib.hid (point_any (racc (bt s) i r0 3))
      clear hc1 hN hR HK hlt hm
      generalize racc (bt s) i r0 3 = R at *
      by_cases hl : R < 65536
      · have hl' : (R : Int) < 65536 := by omega
        have HN2 : Hid (nx (bt s) i = 0) := Lib.hid (by rw [HN.out, if_pos (Or.inl hl)])
        clear hl
        go_wp2_with fail
        go_ret3
        exact first_out HN2.out 0 (by rfl) rfl
      · have hl' : decide ((R : Int) < 65536) = false := decide_eq_false (by omega)
        by_cases hp : isPt R = true
        · have HN2 : Hid (nx (bt s) i = 4) := Lib.hid (by rw [HN.out, if_neg (by rw [hp]; simp; omega)])
          rw [hp] at PT
          clear hl hp
          go_wp2_with fail
          refine (PT.out _).mono ?_
          rintro e w' ⟨rfl, rfl⟩
          go_wp2_with fail
          go_ret3
          exact first_out HN2.out R (by rfl) rfl
        · have hp' : isPt R = false := by simpa using hp
          have HN2 : Hid (nx (bt s) i = 0) := Lib.hid (by rw [HN.out, if_pos (Or.inr hp')])
          rw [hp'] at PT
          clear hl hp hp'
          go_wp2_with fail
          refine (PT.out _).mono ?_
          rintro e w' ⟨rfl, rfl⟩
          go_wp2_with fail
          go_ret3
          exact first_out HN2.out 0 (by rfl) rfl

theorem first_any (s : ByteArray) (i : Nat) (hi : i < s.size) (hs : s.size ≤ 140737488355328) (w : World) :
    Calls Tryd.prog 30 #[.string s, .int .i64 i] w (FirstPost (bt s) i w) := by
  by_cases h1 : bt s i < 128
  · exact first_one s i hi h1 w
  by_cases h2 : bt s i < 192
  · exact first_bad s i hi (by omega) (Or.inl h2) w
  by_cases h3 : bt s i < 224
  · exact first_2 s i hi hs (by omega) h3 w
  by_cases h4 : bt s i < 240
  · exact first_3 s i hi hs (by omega) h4 w
  by_cases h5 : bt s i < 248
  · exact first_4 s i hi hs (by omega) h5 w
  · exact first_bad s i hi (by omega) (Or.inr (by omega)) w
end Go.Proofs.YtiignmjglihbnaaDoor
