/- The reference's decimal: crucibleref07.Read; the law DecimalReads. -/
import Derived.Test.YtgckfilmhnapeaaDoorRn
import Derived.Test.YtgckfilmhnapeaaDoorRq
import Derived.Test.YtgckfilmhnapeaaDoorDec4
import Derived.Test.YtgckfilmhnapeaaDoorBe
import Derived.Test.YtgckfilmhnapeaaDoorTl
namespace Go.Proofs.YtgckfilmhnapeaaDoor
open Go.RowKit Go.Lib Go.ChangeShapes
set_option linter.unusedVariables false

/-- what the reference reads: a size that is the one nearest size of the number -/
def RVal (f l W sign : Nat) (neg : Bool) (s : ByteArray) (p : Int) (v : Int) : Prop :=
  (fineB s = false ∧ v = 0) ∨ (fineB s = true ∧ ∃ a : Nat, v = ((sgnN neg a sign : Nat) : Int) ∧ ∀ b, RdSpec f l W (nval s.data.toList) (p - s.data.toList.length) b → a = b)
theorem RVal.same {f l W sign : Nat} {neg : Bool} {s : ByteArray} {p v x : Int} (h : RVal f l W sign neg s p v) (g : LVal f l W sign neg s p x) : x = v := by
  rcases h with ⟨h1, rfl⟩ | ⟨h1, a, rfl, ha⟩
  · rcases g with ⟨-, rfl⟩ | ⟨g1, -⟩
    · rfl
    · rw [g1] at h1; cases h1
  · rcases g with ⟨g1, -⟩ | ⟨-, b, rfl, hb, -⟩
    · rw [g1] at h1; cases h1
    · rw [ha b hb]
theorem rr_plain (s : ByteArray) (hf : fineB s = true) : ∃ j : Nat, (s.data.toList.length : Int) = (leadL s.data.toList : Nat) + ((plainS s).size : Nat) + j ∧ nval s.data.toList = nval (plainS s).data.toList * 10 ^ j ∧ Bare (plainS s).data.toList := by
  obtain ⟨j, hl, hv⟩ := nval_plain s.data.toList
  refine ⟨j, ?_, ?_, ?_⟩
  · rw [← bytes_len (plainS s), plain_list]; omega
  · rw [plain_list]; exact hv
  · rw [plain_list]; exact bare_plain _ (digL_of_fine _ hf)
theorem rr_join {f l W : Nat} {s : ByteArray} {p : Int} {a : Nat} (hf : fineB s = true) (h : RdSpec f l W (nval (plainS s).data.toList) (p - (leadL s.data.toList : Nat) - ((plainS s).size : Nat)) a) : ∀ b, RdSpec f l W (nval s.data.toList) (p - s.data.toList.length) b → a = b := by
  intro b hb
  obtain ⟨j, h1, h2, -⟩ := rr_plain s hf
  rw [h2] at hb
  refine RdSpec.unique (rd_pad ?_) hb
  rw [show p - s.data.toList.length + (j : Int) = p - (leadL s.data.toList : Nat) - ((plainS s).size : Nat) by omega]
  exact h
theorem rr_low {f l W : Nat} {s : ByteArray} {p : Int} (hf : fineB s = true) (hl : l ≤ 1074) (h : (plainS s).size = 0 ∨ p - (leadL s.data.toList : Nat) < -400) : ∀ b, RdSpec f l W (nval s.data.toList) (p - s.data.toList.length) b → 0 = b := by
  refine rr_join hf ?_
  obtain ⟨j, h1, h2, hB⟩ := rr_plain s hf
  by_cases h0 : (plainS s).size = 0
  · have e : (plainS s).data.toList = [] := List.eq_nil_of_length_eq_zero (by rw [bytes_len]; exact h0)
    rw [e]
    exact rd_none f l W _
  · refine rd_low f l W _ (plainS s).size _ hl ?_ (by omega)
    have := nval_lt _ hB.dig
    rw [bytes_len] at this
    exact this
theorem rr_high {f l W : Nat} {s : ByteArray} {p : Int} (hf : fineB s = true) (hfl : f + W ≤ 1200 + l) (h0 : (plainS s).size ≠ 0) (h : 400 < p - (leadL s.data.toList : Nat)) : ∀ b, RdSpec f l W (nval s.data.toList) (p - s.data.toList.length) b → (W + 1) * 2 ^ f = b := by
  refine rr_join hf ?_
  obtain ⟨j, h1, h2, hB⟩ := rr_plain s hf
  refine rd_high f l W _ (plainS s).size _ hfl (by omega) ?_ (by omega)
  have := (bare_pos _ hB (by intro e; apply h0; rw [← bytes_len, e]; rfl)).1
  rw [bytes_len] at this
  exact this
/-- the first thousand digits and a 1 -/
def cutT (t : ByteArray) : ByteArray := t.extract 0 1000 ++ ⟨#[49]⟩
theorem cutT_list (t : ByteArray) (h : 1000 ≤ t.size) : (cutT t).data.toList = t.data.toList.take 1000 ++ [49] := by
  unfold cutT
  simp [ByteArray.data_append, ByteArray.data_extract]
theorem cutT_size (t : ByteArray) (h : 1000 ≤ t.size) : (cutT t).size = 1001 := by
  rw [← bytes_len, cutT_list t h, List.length_append, List.length_take, bytes_len]
  simp
  omega
theorem cutT_fine (t : ByteArray) (h : 1000 ≤ t.size) (hd : digL t.data.toList) : fineB (cutT t) = true := by
  unfold fineB
  rw [cutT_list t h]
  apply fine_of_digL
  intro c hc
  rcases List.mem_append.1 hc with g | g
  · exact hd c (List.mem_of_mem_take g)
  · rw [List.mem_singleton.1 g]; decide
theorem rr_cut {f l W : Nat} {s : ByteArray} {p : Int} {a : Nat} (hff : f ≤ 52) (hl : l ≤ 1074) (hfl : f + W ≤ 1200 + l) (hf : fineB s = true) (hL : 1000 < (plainS s).size) (h : RdSpec f l W (nval (cutT (plainS s)).data.toList) (p - (leadL s.data.toList : Nat) - (1001 : Nat)) a) : ∀ b, RdSpec f l W (nval s.data.toList) (p - s.data.toList.length) b → a = b := by
  intro b hb
  obtain ⟨j, h1, h2, hB⟩ := rr_plain s hf
  have hlen : (plainS s).data.toList.length = (plainS s).size := bytes_len _
  rw [cutT_list _ (by omega), nval_append] at h
  rw [h2] at hb
  generalize hps : (plainS s).data.toList = t at *
  generalize (plainS s).size = L at *
  obtain ⟨r, hr⟩ : ∃ r, L = 1000 + r := ⟨L - 1000, by omega⟩
  have hsplit := nval_append (t.take 1000) (t.drop 1000)
  rw [List.take_append_drop, List.length_drop, hlen, show L - 1000 = r by omega] at hsplit
  obtain ⟨n9, hn9⟩ : ∃ n9 : Nat, n9 = 799 := ⟨_, rfl⟩
  have hm : 10 ^ n9 ≤ nval (t.take 1000) := by
    cases t with
    | nil => simp at hlen; omega
    | cons c q =>
      have hc := hB.first c q rfl
      have hd := hB.dig c (by simp)
      have hc2 : 49 ≤ c.toNat := by have := u8_ne hc; omega
      rw [show (1000 : Nat) = 999 + 1 from rfl, List.take_succ_cons]
      have h3 := nval_ge c (q.take 999) hc2
      rw [List.length_take] at h3
      refine Nat.le_trans (Nat.pow_le_pow_right (by decide) ?_) h3
      simp at hlen
      omega
  have hne : t.drop 1000 ≠ [] := by
    intro e
    have := congrArg List.length e
    rw [List.length_drop, hlen] at this
    simp at this
    omega
  have hdr : digL (t.drop 1000) := fun c hc => hB.dig c (List.mem_of_mem_drop hc)
  have hpos : 0 < nval (t.drop 1000) := nval_some _ hdr hne (fun x d e => hB.last (t.take 1000 ++ x) d (by rw [List.append_assoc, ← e, List.take_append_drop]))
  have hup : nval (t.drop 1000) < 10 ^ r := by
    have := nval_lt _ hdr
    rw [List.length_drop, hlen, show L - 1000 = r by omega] at this
    exact this
  have hten : 0 < 10 ^ j := ten_pos j
  refine behind_rd hff hl hfl n9 (nval (t.take 1000)) (nval (t.drop 1000) * 10 ^ j) (r + j) hn9 hm (Nat.mul_pos hpos hten) (by rw [Nat.pow_add]; exact Nat.mul_lt_mul_of_pos_right hup hten) (p - (leadL s.data.toList : Nat) - 200) (a := a) (b := b) ?_ ?_
  · rw [show p - (leadL s.data.toList : Nat) - 200 - 801 = p - (leadL s.data.toList : Nat) - (1001 : Nat) by omega]
    exact h
  · rw [show p - (leadL s.data.toList : Nat) - 200 - ((800 + (r + j) : Nat) : Int) = p - s.data.toList.length by omega]
    rw [hsplit, Nat.add_mul, Nat.mul_assoc, ← Nat.pow_add] at hb
    exact hb
/-- the nearest size to the fraction is the one that is read -/
theorem near_rd_up {f l W m a : Nat} {k : Int} (hk : 0 < k) (h : Near f ((W + 1) * 2 ^ f) a (m * 10 ^ k.toNat * 2 ^ l) 1) : RdSpec f l W m k a := by
  unfold RdSpec
  rw [show (-k).toNat = 0 by omega, Nat.pow_zero]
  exact h
theorem near_rd_down {f l W m a : Nat} {k : Int} (hk : ¬ 0 < k) (h : Near f ((W + 1) * 2 ^ f) a (m * 2 ^ l) (10 ^ (-k).toNat)) : RdSpec f l W m k a := by
  unfold RdSpec
  rw [show k.toNat = 0 by omega, Nat.pow_zero, Nat.mul_one]
  exact h
theorem ll_ten (X k : Nat) (h : X ≤ 10 ^ k) : ll X ≤ k + 1 := by
  refine ll_two X (k + 1) ?_
  refine Nat.lt_of_le_of_lt h ?_
  refine Nat.lt_of_le_of_lt (Nat.pow_le_pow_left (show 10 ≤ 2 ^ 32 by decide) k) ?_
  rw [← Nat.pow_mul]
  exact Nat.pow_lt_pow_right (by decide) (by omega)

set_option maxRecDepth 100000 in
set_option maxHeartbeats 1500000 in
theorem rread_ref (u : Int) (neg : Bool) (s : ByteArray) (p : Int) (w : World) (hs : s.size ≤ 1048576) (hp1 : -9223372036854775808 ≤ p) (hp2 : p ≤ 9223372036854775807) :
    Calls Tryd.prog 17 #[.int .i64 (wB u), .agg #[.bool neg, .string s, .int .i64 p]] w fun e w' => ∃ v : Int, e = .returned (.tuple #[.int .u64 v, .bool (fineB s)]) ∧ Below w.heap.size w w' ∧ RVal (wF u) (wL u) (wW u) (wS u) neg s p v := by
  have HFI := Lib.hid (fun wx => fine_ref neg s p wx (by omega))
  have HSG := Lib.hid (fun wx => wsign_ref (wid_of u) wx)
  have HIN := Lib.hid (fun wx => winf_ref (wid_of u) wx)
  have HPL := Lib.hid (fun wx => plain_ref s wx (by omega))
  have HNE := Lib.hid (fun A B M N cm cq wx hA hB hN hm hn => @nearest_ref (wB u) (wF u) (wL u) (wW u + 1) (wS u) (wI u) (wid_of u) A B M N cm cq wx hA hB hN hm hn)
  obtain ⟨hS0, hS1, hI1, hI0, hff, hl, hW⟩ := wS_le u
  have hfl : wF u + wW u ≤ 1200 + wL u := (w_facts u).2.2
  have HI := Lib.hid (wI_eq u)
  have HB0 : Hid (Below w.heap.size w (w.alloc (.cells #[.bool neg, .string s, .int .i64 p] 23))) := Lib.hid ((Below.refl w.heap.size w).alloc (Nat.le_refl _) _)
  have H0 := Lib.hid (dgC_new w neg s p 23)
  cases hf : fineB s with
  | false =>
    rw [hf] at HFI
    have HF := Lib.hid hf
    clear hf
    go_enter Tryd.func17, Tryd.ntmps17
    have c0 := H0.out.c0
    have c1 := H0.out.c1
    have c2 := H0.out.c2
    go_wp2_with fail
    refine (HFI.out _).mono ?_
    rintro e w1 ⟨rfl, hb1⟩
    have HB1 := Lib.hid (HB0.out.trans (hb1.mono HB0.out.size))
    clear hb1 c0 c1 c2
    go_wp2_with fail
    go_ret2
    exact ⟨0, rfl, HB1.out, .inl ⟨HF.out, rfl⟩⟩
  | true =>
    rw [hf] at HFI
    have HF := Lib.hid hf
    have HLOW := Lib.hid (@rr_low (wF u) (wL u) (wW u) s p hf hl)
    have HHIGH := Lib.hid (@rr_high (wF u) (wL u) (wW u) s p hf hfl)
    have HJOIN := Lib.hid (fun a => @rr_join (wF u) (wL u) (wW u) s p a hf)
    have HCUT := Lib.hid (fun a => @rr_cut (wF u) (wL u) (wW u) s p a hff hl hfl hf)
    obtain ⟨jj, hj1, hj2, hB⟩ := rr_plain s hf
    have HBA := Lib.hid hB
    have hsl : s.data.toList.length = s.size := bytes_len s
    rw [hsl] at hj1
    have hld : leadL s.data.toList ≤ 1048576 := by omega
    have hLs : (plainS s).size ≤ 1048576 := by omega
    have HPF := Lib.hid (show fineB (plainS s) = true from fine_of_digL _ hB.dig)
    have HPE : Hid ((plainS s).size = 0 → plainS s = ⟨#[]⟩) := Lib.hid (fun h => by
      have e : (plainS s).data.toList = [] := List.eq_nil_of_length_eq_zero (by rw [bytes_len]; exact h)
      have e2 : (plainS s).data = #[] := by simpa using e
      cases hh : plainS s with
      | mk d => rw [hh] at e2; simp at e2; rw [e2])
    have HPN : Hid ((plainS s).size ≠ 0 → (plainS s).toList.isEmpty = false) := Lib.hid (fun h => by
      rw [Lib.toList_data]
      cases hq : (plainS s).data.toList with
      | nil => exact absurd (by rw [← bytes_len, hq]; rfl) h
      | cons c r => rfl)
    clear hf hB hj1 hj2 hsl hff hl hfl hs hW
    generalize hldE : leadL s.data.toList = ld at *
    generalize plainS s = ps at *
    clear hldE
    have HI9 := Lib.hid (show (wI u : Int) < 9223372036854775808 ∧ (wS u : Int) ≤ 9223372036854775808 from ⟨by omega, by omega⟩)
    clear hS0 hS1 hI1 hI0
    cases neg
    · go_enter Tryd.func17, Tryd.ntmps17
      have c0 := H0.out.c0
      have c1 := H0.out.c1
      have c2 := H0.out.c2
      go_wp2_with fail
      refine (HFI.out _).mono ?_
      rintro e w1 ⟨rfl, hb1⟩
      have HB1 := Lib.hid (HB0.out.trans (hb1.mono HB0.out.size))
      have H1 := Lib.hid (H0.out.below hb1)
      clear hb1 c0 c1 c2 H0 HB0
      have c0 := H1.out.c0
      have c1 := H1.out.c1
      have c2 := H1.out.c2
      go_wp2_with fail
      refine (HPL.out _).mono ?_
      rintro e wy ⟨rfl, hwy⟩
      subst hwy
      by_cases hL : ps.size = 0
      · have hE := HPE.out hL
        have HA := Lib.hid (HLOW.out (.inl hL))
        subst hE
        go_wp2_with fail
        go_ret2
        exact ⟨0, rfl, HB1.out, .inr ⟨HF.out, 0, by unfold sgnN; rw [if_neg (by decide)]; rfl, HA.out⟩⟩
      have hN := HPN.out hL
      by_cases hlo : p < -1000000000000
      · have HA := Lib.hid (HLOW.out (.inr (by omega)))
        go_wp2_with fail
        go_ret2
        exact ⟨0, rfl, HB1.out, .inr ⟨HF.out, 0, by unfold sgnN; rw [if_neg (by decide)]; rfl, HA.out⟩⟩
      have hiw : IntKind.u64.wrap (wI u : Int) = (wI u : Int) := by have h9 := HI9.out; rw [u64_wrap]; omega
      by_cases hhi : 1000000000000 < p
      · have HA := Lib.hid (HHIGH.out hL (by omega))
        go_wp2_with fail
        refine (HIN.out _).mono ?_
        rintro e w3 ⟨rfl, hb3⟩
        have HB3 := Lib.hid (HB1.out.trans (hb3.mono HB1.out.size))
        clear hb3
        go_wp2_with fail
        go_ret2
        exact ⟨((wI u : Nat) : Int), rfl, HB3.out, .inr ⟨HF.out, _, by rw [HI.out]; unfold sgnN; rw [if_neg (by decide)], HA.out⟩⟩
      have hpw : IntKind.i64.wrap (p - (ld : Int)) = p - (ld : Int) := IntWalk.i64_in _ (by omega)
      by_cases hh4 : 400 < p - (ld : Int)
      · have HA := Lib.hid (HHIGH.out hL hh4)
        go_wp2_with fail
        refine (HIN.out _).mono ?_
        rintro e w3 ⟨rfl, hb3⟩
        have HB3 := Lib.hid (HB1.out.trans (hb3.mono HB1.out.size))
        clear hb3
        go_wp2_with fail
        go_ret2
        exact ⟨((wI u : Nat) : Int), rfl, HB3.out, .inr ⟨HF.out, _, by rw [HI.out]; unfold sgnN; rw [if_neg (by decide)], HA.out⟩⟩
      by_cases hl4 : p - (ld : Int) < -400
      · have HA := Lib.hid (HLOW.out (.inr hl4))
        go_wp2_with fail
        go_ret2
        exact ⟨0, rfl, HB1.out, .inr ⟨HF.out, 0, by unfold sgnN; rw [if_neg (by decide)]; rfl, HA.out⟩⟩
      clear hiw
      by_cases hcut : 1000 < ps.size
      · have hcutI : (1000 : Int) < (ps.size : Int) := by omega
        have hle : (1000 : Int) ≤ (ps.size : Int) := by omega
        obtain ⟨T, hT⟩ : ∃ T, cutT ps = T := ⟨_, rfl⟩
        have hTs : T.size = 1001 := by rw [← hT]; exact cutT_size ps (by omega)
        have HTF : Hid (fineB T = true) := Lib.hid (by rw [← hT]; exact cutT_fine ps (by omega) HBA.out.dig)
        have HTE := Lib.hid hT
        have hTX : ps.extract 0 1000 ++ ⟨#[49]⟩ = T := hT
        have hx1 : (ps.extract 0 1000).size = 1000 := by rw [ByteArray.size_extract]; omega
        have hx2 : (⟨#[49]⟩ : ByteArray).size = 1 := rfl
        have hx3 : ¬ (9223372036854775807 < (ps.extract 0 1000).size + (⟨#[49]⟩ : ByteArray).size) := by rw [hx1, hx2]; decide
        have HCT := Lib.hid hcut
        clear hT
        obtain ⟨k, hk⟩ : ∃ k : Int, p - (ld : Int) - 1001 = k := ⟨_, rfl⟩
        have HK := Lib.hid hk
        have k1 : -1500 ≤ k := by omega
        have k2 : k ≤ 400 := by omega
        have kw : IntKind.i64.wrap (p - (ld : Int) - 1001) = k := by rw [hk]; exact IntWalk.i64_in _ (by omega)
        have HNT := Lib.hid (fun wx => natural_ref T HTF.out (by omega) wx)
        have hm10 := nval_lt T.data.toList (digL_of_fine _ HTF.out)
        rw [bytes_len] at hm10
        have hllm : ll (nval T.data.toList) ≤ 1002 := Nat.le_trans (ll_ten _ T.size (Nat.le_of_lt hm10)) (by omega)
        have HLM := Lib.hid hllm
        generalize hmm : nval T.data.toList = m at *
        have HME := Lib.hid hmm
        clear hk hm10 hllm hmm
        go_wp2_with fail
        refine (HNT.out _).mono ?_
        rintro e w4 ⟨A4, c4, rfl, g1, g2, g3, g4⟩
        have C4 := Lib.hid g1
        have HB4 := Lib.hid (HB1.out.trans (g4.mono HB1.out.size))
        have HONE := Lib.hid (one_can w4)
        have C4' := Lib.hid (C4.out.below ((Below.refl w4.heap.size w4).alloc (Nat.le_refl _) (.cells #[.int .u32 1] 49)))
        have HB5 : Hid (Below w.heap.size w (w4.alloc (.cells #[.int .u32 1] 49))) := Lib.hid (HB4.out.alloc HB4.out.size _)
        clear g1 g2 g3 g4 C4
        by_cases hkp : 0 < k
        · obtain ⟨n, hn⟩ : ∃ n : Nat, k = n := ⟨k.toNat, by omega⟩
          have hkn : k.toNat = n := by omega
          have HT := Lib.hid (fun wx => ten_ref n (by omega) wx)
          have HTL := Lib.hid (show ll (10 ^ n) ≤ 402 from Nat.le_trans (ll_ten _ n (Nat.le_refl _)) (by omega))
          have HKP := Lib.hid hkp
          have HKN := Lib.hid hkn
          have hn1 : (0 : Int) < (n : Int) := by omega
          clear hkn hkp
          subst hn
          generalize hxx : 10 ^ n = X at *
          have HXX := Lib.hid hxx
          clear hxx
          go_wp2_with fail
          refine (HT.out _).mono ?_
          rintro e w5 ⟨A5, c5, rfl, g1, g2, g3, g4⟩
          have C5 := Lib.hid g1
          have C45 := Lib.hid (C4'.out.below g4)
          have HO5 := Lib.hid (HONE.out.can.below g4)
          have HB6 := Lib.hid (HB5.out.trans (g4.mono HB5.out.size))
          have HMU := Lib.hid (mul_ref A4 A5 m X c4 c5 w5 C45.out C5.out (by have := HLM.out; omega) (by have := HTL.out; omega))
          clear g1 g2 g3 g4
          go_wp2_with fail
          refine HMU.out.mono ?_
          rintro e w6 ⟨A6, c6, rfl, g1, g2, g3, g4⟩
          have HB7 := Lib.hid (HB6.out.trans (g4.mono HB6.out.size))
          have HNR := HNE.out A6 (some ⟨w4.heap.size, 0, none⟩) (m * X) 1 c6 1 w6 g1 (HO5.out.below g4) (by decide) (Nat.le_trans (ll_mul m X 1002 402 HLM.out HTL.out) (by decide)) (by rw [ll_1]; decide)
          rw [ll_1] at HNR
          have HNR' := Lib.hid HNR
          clear g1 g2 g3 g4 HNR HMU
          go_wp2_with fail
          refine HNR'.out.mono ?_
          rintro e w7 ⟨a, rfl, hb7, hnear⟩
          have HB8 := Lib.hid (HB7.out.trans (hb7.mono HB7.out.size))
          have HA : Hid (a ≤ wI u ∧ ∀ b, RdSpec (wF u) (wL u) (wW u) (nval s.data.toList) (p - s.data.toList.length) b → a = b) := Lib.hid ⟨hnear.le, (fun h => HCUT.out a HCT.out (by have hk := HK.out; rw [HTE.out, show p - (ld : Nat) - ((1001 : Nat) : Int) = p - (ld : Int) - 1001 from rfl, hk, HME.out]; exact h)) (near_rd_up (f := wF u) (l := wL u) (W := wW u) (m := m) (a := a) (k := (n : Int)) HKP.out (by rw [HKN.out, HXX.out, ← HI.out]; exact hnear))⟩
          have ha := HA.out.1
          have haw : IntKind.u64.wrap (a : Int) = (a : Int) := by have h9 := HI9.out; rw [u64_wrap]; omega
          clear hb7 hnear HNR' ha
          go_wp2_with fail
          go_ret2
          exact ⟨(a : Int), rfl, HB8.out, .inr ⟨HF.out, a, by unfold sgnN; rw [if_neg (by decide)], HA.out.2⟩⟩
        · obtain ⟨n, hn⟩ : ∃ n : Nat, -k = n := ⟨(-k).toNat, by omega⟩
          have hkn : (-k).toNat = n := by omega
          have hneg : IntKind.i64.wrap (-k) = (n : Int) := by rw [hn]; exact IntWalk.i64_in _ (by omega)
          have HT := Lib.hid (fun wx => ten_ref n (by omega) wx)
          have HTL := Lib.hid (show ll (10 ^ n) ≤ 1502 from Nat.le_trans (ll_ten _ n (Nat.le_refl _)) (by omega))
          have HTP := Lib.hid (ten_pos n)
          have HKP := Lib.hid hkp
          have HKN := Lib.hid hkn
          clear hkn hn
          generalize hxx : 10 ^ n = X at *
          have HXX := Lib.hid hxx
          clear hxx
          go_wp2_with fail
          refine (HT.out _).mono ?_
          rintro e w5 ⟨A5, c5, rfl, g1, g2, g3, g4⟩
          have HB6 := Lib.hid (HB5.out.trans (g4.mono HB5.out.size))
          have HNR := Lib.hid (HNE.out A4 A5 m X c4 c5 w5 (C4'.out.below g4) g1 HTP.out (Nat.le_trans HLM.out (by decide)) (Nat.le_trans HTL.out (by decide)))
          clear g1 g2 g3 g4
          go_wp2_with fail
          refine HNR.out.mono ?_
          rintro e w7 ⟨a, rfl, hb7, hnear⟩
          have HB8 := Lib.hid (HB6.out.trans (hb7.mono HB6.out.size))
          have HA : Hid (a ≤ wI u ∧ ∀ b, RdSpec (wF u) (wL u) (wW u) (nval s.data.toList) (p - s.data.toList.length) b → a = b) := Lib.hid ⟨hnear.le, (fun h => HCUT.out a HCT.out (by have hk := HK.out; rw [HTE.out, show p - (ld : Nat) - ((1001 : Nat) : Int) = p - (ld : Int) - 1001 from rfl, hk, HME.out]; exact h)) (near_rd_down (f := wF u) (l := wL u) (W := wW u) (m := m) (a := a) (k := k) (by have := HKP.out; omega) (by rw [HKN.out, HXX.out, ← HI.out]; exact hnear))⟩
          have ha := HA.out.1
          have haw : IntKind.u64.wrap (a : Int) = (a : Int) := by have h9 := HI9.out; rw [u64_wrap]; omega
          clear hb7 hnear HNR ha
          go_wp2_with fail
          go_ret2
          exact ⟨(a : Int), rfl, HB8.out, .inr ⟨HF.out, a, by unfold sgnN; rw [if_neg (by decide)], HA.out.2⟩⟩
      have hcutI : ¬ (1000 : Int) < (ps.size : Int) := by omega
      have HTF := HPF
      obtain ⟨k, hk⟩ : ∃ k : Int, p - (ld : Int) - (ps.size : Nat) = k := ⟨_, rfl⟩
      have HK := Lib.hid hk
      have k1 : -1500 ≤ k := by omega
      have k2 : k ≤ 400 := by omega
      have kw : IntKind.i64.wrap (p - (ld : Int) - (ps.size : Nat)) = k := by rw [hk]; exact IntWalk.i64_in _ (by omega)
      have HNT := Lib.hid (fun wx => natural_ref ps HTF.out (by omega) wx)
      have hm10 := nval_lt ps.data.toList (digL_of_fine _ HTF.out)
      rw [bytes_len] at hm10
      have hllm : ll (nval ps.data.toList) ≤ 1002 := Nat.le_trans (ll_ten _ ps.size (Nat.le_of_lt hm10)) (by omega)
      have HLM := Lib.hid hllm
      generalize hmm : nval ps.data.toList = m at *
      have HME := Lib.hid hmm
      clear hk hm10 hllm hmm
      go_wp2_with fail
      refine (HNT.out _).mono ?_
      rintro e w4 ⟨A4, c4, rfl, g1, g2, g3, g4⟩
      have C4 := Lib.hid g1
      have HB4 := Lib.hid (HB1.out.trans (g4.mono HB1.out.size))
      have HONE := Lib.hid (one_can w4)
      have C4' := Lib.hid (C4.out.below ((Below.refl w4.heap.size w4).alloc (Nat.le_refl _) (.cells #[.int .u32 1] 49)))
      have HB5 : Hid (Below w.heap.size w (w4.alloc (.cells #[.int .u32 1] 49))) := Lib.hid (HB4.out.alloc HB4.out.size _)
      clear g1 g2 g3 g4 C4
      by_cases hkp : 0 < k
      · obtain ⟨n, hn⟩ : ∃ n : Nat, k = n := ⟨k.toNat, by omega⟩
        have hkn : k.toNat = n := by omega
        have HT := Lib.hid (fun wx => ten_ref n (by omega) wx)
        have HTL := Lib.hid (show ll (10 ^ n) ≤ 402 from Nat.le_trans (ll_ten _ n (Nat.le_refl _)) (by omega))
        have HKP := Lib.hid hkp
        have HKN := Lib.hid hkn
        have hn1 : (0 : Int) < (n : Int) := by omega
        clear hkn hkp
        subst hn
        generalize hxx : 10 ^ n = X at *
        have HXX := Lib.hid hxx
        clear hxx
        go_wp2_with fail
        refine (HT.out _).mono ?_
        rintro e w5 ⟨A5, c5, rfl, g1, g2, g3, g4⟩
        have C5 := Lib.hid g1
        have C45 := Lib.hid (C4'.out.below g4)
        have HO5 := Lib.hid (HONE.out.can.below g4)
        have HB6 := Lib.hid (HB5.out.trans (g4.mono HB5.out.size))
        have HMU := Lib.hid (mul_ref A4 A5 m X c4 c5 w5 C45.out C5.out (by have := HLM.out; omega) (by have := HTL.out; omega))
        clear g1 g2 g3 g4
        go_wp2_with fail
        refine HMU.out.mono ?_
        rintro e w6 ⟨A6, c6, rfl, g1, g2, g3, g4⟩
        have HB7 := Lib.hid (HB6.out.trans (g4.mono HB6.out.size))
        have HNR := HNE.out A6 (some ⟨w4.heap.size, 0, none⟩) (m * X) 1 c6 1 w6 g1 (HO5.out.below g4) (by decide) (Nat.le_trans (ll_mul m X 1002 402 HLM.out HTL.out) (by decide)) (by rw [ll_1]; decide)
        rw [ll_1] at HNR
        have HNR' := Lib.hid HNR
        clear g1 g2 g3 g4 HNR HMU
        go_wp2_with fail
        refine HNR'.out.mono ?_
        rintro e w7 ⟨a, rfl, hb7, hnear⟩
        have HB8 := Lib.hid (HB7.out.trans (hb7.mono HB7.out.size))
        have HA : Hid (a ≤ wI u ∧ ∀ b, RdSpec (wF u) (wL u) (wW u) (nval s.data.toList) (p - s.data.toList.length) b → a = b) := Lib.hid ⟨hnear.le, (fun h => HJOIN.out a (by have hk := HK.out; rw [hk]; first | exact h | (rw [HME.out]; exact h))) (near_rd_up (f := wF u) (l := wL u) (W := wW u) (m := m) (a := a) (k := (n : Int)) HKP.out (by rw [HKN.out, HXX.out, ← HI.out]; exact hnear))⟩
        have ha := HA.out.1
        have haw : IntKind.u64.wrap (a : Int) = (a : Int) := by have h9 := HI9.out; rw [u64_wrap]; omega
        clear hb7 hnear HNR' ha
        go_wp2_with fail
        go_ret2
        exact ⟨(a : Int), rfl, HB8.out, .inr ⟨HF.out, a, by unfold sgnN; rw [if_neg (by decide)], HA.out.2⟩⟩
      · obtain ⟨n, hn⟩ : ∃ n : Nat, -k = n := ⟨(-k).toNat, by omega⟩
        have hkn : (-k).toNat = n := by omega
        have hneg : IntKind.i64.wrap (-k) = (n : Int) := by rw [hn]; exact IntWalk.i64_in _ (by omega)
        have HT := Lib.hid (fun wx => ten_ref n (by omega) wx)
        have HTL := Lib.hid (show ll (10 ^ n) ≤ 1502 from Nat.le_trans (ll_ten _ n (Nat.le_refl _)) (by omega))
        have HTP := Lib.hid (ten_pos n)
        have HKP := Lib.hid hkp
        have HKN := Lib.hid hkn
        clear hkn hn
        generalize hxx : 10 ^ n = X at *
        have HXX := Lib.hid hxx
        clear hxx
        go_wp2_with fail
        refine (HT.out _).mono ?_
        rintro e w5 ⟨A5, c5, rfl, g1, g2, g3, g4⟩
        have HB6 := Lib.hid (HB5.out.trans (g4.mono HB5.out.size))
        have HNR := Lib.hid (HNE.out A4 A5 m X c4 c5 w5 (C4'.out.below g4) g1 HTP.out (Nat.le_trans HLM.out (by decide)) (Nat.le_trans HTL.out (by decide)))
        clear g1 g2 g3 g4
        go_wp2_with fail
        refine HNR.out.mono ?_
        rintro e w7 ⟨a, rfl, hb7, hnear⟩
        have HB8 := Lib.hid (HB6.out.trans (hb7.mono HB6.out.size))
        have HA : Hid (a ≤ wI u ∧ ∀ b, RdSpec (wF u) (wL u) (wW u) (nval s.data.toList) (p - s.data.toList.length) b → a = b) := Lib.hid ⟨hnear.le, (fun h => HJOIN.out a (by have hk := HK.out; rw [hk]; first | exact h | (rw [HME.out]; exact h))) (near_rd_down (f := wF u) (l := wL u) (W := wW u) (m := m) (a := a) (k := k) (by have := HKP.out; omega) (by rw [HKN.out, HXX.out, ← HI.out]; exact hnear))⟩
        have ha := HA.out.1
        have haw : IntKind.u64.wrap (a : Int) = (a : Int) := by have h9 := HI9.out; rw [u64_wrap]; omega
        clear hb7 hnear HNR ha
        go_wp2_with fail
        go_ret2
        exact ⟨(a : Int), rfl, HB8.out, .inr ⟨HF.out, a, by unfold sgnN; rw [if_neg (by decide)], HA.out.2⟩⟩
    · go_enter Tryd.func17, Tryd.ntmps17
      have c0 := H0.out.c0
      have c1 := H0.out.c1
      have c2 := H0.out.c2
      go_wp2_with fail
      refine (HFI.out _).mono ?_
      rintro e w1 ⟨rfl, hb1⟩
      have HB1 := Lib.hid (HB0.out.trans (hb1.mono HB0.out.size))
      have H1 := Lib.hid (H0.out.below hb1)
      clear hb1 c0 c1 c2 H0 HB0
      have c0 := H1.out.c0
      have c1 := H1.out.c1
      have c2 := H1.out.c2
      go_wp2_with fail
      refine (HSG.out _).mono ?_
      rintro e wz ⟨rfl, hwz⟩
      subst hwz
      go_wp2_with fail
      refine (HPL.out _).mono ?_
      rintro e wy ⟨rfl, hwy⟩
      subst hwy
      by_cases hL : ps.size = 0
      · have hE := HPE.out hL
        have HA := Lib.hid (HLOW.out (.inl hL))
        subst hE
        go_wp2_with fail
        go_ret2
        exact ⟨((wS u : Nat) : Int), rfl, HB1.out, .inr ⟨HF.out, 0, by unfold sgnN; rw [if_pos rfl, Nat.zero_add], HA.out⟩⟩
      have hN := HPN.out hL
      by_cases hlo : p < -1000000000000
      · have HA := Lib.hid (HLOW.out (.inr (by omega)))
        go_wp2_with fail
        go_ret2
        exact ⟨((wS u : Nat) : Int), rfl, HB1.out, .inr ⟨HF.out, 0, by unfold sgnN; rw [if_pos rfl, Nat.zero_add], HA.out⟩⟩
      have hiw : IntKind.u64.wrap ((wS u : Int) + (wI u : Int)) = ((wS u + wI u : Nat) : Int) := by have h9 := HI9.out; rw [show (wS u : Int) + (wI u : Int) = ((wS u + wI u : Nat) : Int) by omega, u64_wrap]; omega
      by_cases hhi : 1000000000000 < p
      · have HA := Lib.hid (HHIGH.out hL (by omega))
        go_wp2_with fail
        refine (HIN.out _).mono ?_
        rintro e w3 ⟨rfl, hb3⟩
        have HB3 := Lib.hid (HB1.out.trans (hb3.mono HB1.out.size))
        clear hb3
        go_wp2_with fail
        go_ret2
        exact ⟨((wS u + wI u : Nat) : Int), rfl, HB3.out, .inr ⟨HF.out, _, by rw [HI.out]; unfold sgnN; rw [if_pos rfl, Nat.add_comm], HA.out⟩⟩
      have hpw : IntKind.i64.wrap (p - (ld : Int)) = p - (ld : Int) := IntWalk.i64_in _ (by omega)
      by_cases hh4 : 400 < p - (ld : Int)
      · have HA := Lib.hid (HHIGH.out hL hh4)
        go_wp2_with fail
        refine (HIN.out _).mono ?_
        rintro e w3 ⟨rfl, hb3⟩
        have HB3 := Lib.hid (HB1.out.trans (hb3.mono HB1.out.size))
        clear hb3
        go_wp2_with fail
        go_ret2
        exact ⟨((wS u + wI u : Nat) : Int), rfl, HB3.out, .inr ⟨HF.out, _, by rw [HI.out]; unfold sgnN; rw [if_pos rfl, Nat.add_comm], HA.out⟩⟩
      by_cases hl4 : p - (ld : Int) < -400
      · have HA := Lib.hid (HLOW.out (.inr hl4))
        go_wp2_with fail
        go_ret2
        exact ⟨((wS u : Nat) : Int), rfl, HB1.out, .inr ⟨HF.out, 0, by unfold sgnN; rw [if_pos rfl, Nat.zero_add], HA.out⟩⟩
      clear hiw
      by_cases hcut : 1000 < ps.size
      · have hcutI : (1000 : Int) < (ps.size : Int) := by omega
        have hle : (1000 : Int) ≤ (ps.size : Int) := by omega
        obtain ⟨T, hT⟩ : ∃ T, cutT ps = T := ⟨_, rfl⟩
        have hTs : T.size = 1001 := by rw [← hT]; exact cutT_size ps (by omega)
        have HTF : Hid (fineB T = true) := Lib.hid (by rw [← hT]; exact cutT_fine ps (by omega) HBA.out.dig)
        have HTE := Lib.hid hT
        have hTX : ps.extract 0 1000 ++ ⟨#[49]⟩ = T := hT
        have hx1 : (ps.extract 0 1000).size = 1000 := by rw [ByteArray.size_extract]; omega
        have hx2 : (⟨#[49]⟩ : ByteArray).size = 1 := rfl
        have hx3 : ¬ (9223372036854775807 < (ps.extract 0 1000).size + (⟨#[49]⟩ : ByteArray).size) := by rw [hx1, hx2]; decide
        have HCT := Lib.hid hcut
        clear hT
        obtain ⟨k, hk⟩ : ∃ k : Int, p - (ld : Int) - 1001 = k := ⟨_, rfl⟩
        have HK := Lib.hid hk
        have k1 : -1500 ≤ k := by omega
        have k2 : k ≤ 400 := by omega
        have kw : IntKind.i64.wrap (p - (ld : Int) - 1001) = k := by rw [hk]; exact IntWalk.i64_in _ (by omega)
        have HNT := Lib.hid (fun wx => natural_ref T HTF.out (by omega) wx)
        have hm10 := nval_lt T.data.toList (digL_of_fine _ HTF.out)
        rw [bytes_len] at hm10
        have hllm : ll (nval T.data.toList) ≤ 1002 := Nat.le_trans (ll_ten _ T.size (Nat.le_of_lt hm10)) (by omega)
        have HLM := Lib.hid hllm
        generalize hmm : nval T.data.toList = m at *
        have HME := Lib.hid hmm
        clear hk hm10 hllm hmm
        go_wp2_with fail
        refine (HNT.out _).mono ?_
        rintro e w4 ⟨A4, c4, rfl, g1, g2, g3, g4⟩
        have C4 := Lib.hid g1
        have HB4 := Lib.hid (HB1.out.trans (g4.mono HB1.out.size))
        have HONE := Lib.hid (one_can w4)
        have C4' := Lib.hid (C4.out.below ((Below.refl w4.heap.size w4).alloc (Nat.le_refl _) (.cells #[.int .u32 1] 49)))
        have HB5 : Hid (Below w.heap.size w (w4.alloc (.cells #[.int .u32 1] 49))) := Lib.hid (HB4.out.alloc HB4.out.size _)
        clear g1 g2 g3 g4 C4
        by_cases hkp : 0 < k
        · obtain ⟨n, hn⟩ : ∃ n : Nat, k = n := ⟨k.toNat, by omega⟩
          have hkn : k.toNat = n := by omega
          have HT := Lib.hid (fun wx => ten_ref n (by omega) wx)
          have HTL := Lib.hid (show ll (10 ^ n) ≤ 402 from Nat.le_trans (ll_ten _ n (Nat.le_refl _)) (by omega))
          have HKP := Lib.hid hkp
          have HKN := Lib.hid hkn
          have hn1 : (0 : Int) < (n : Int) := by omega
          clear hkn hkp
          subst hn
          generalize hxx : 10 ^ n = X at *
          have HXX := Lib.hid hxx
          clear hxx
          go_wp2_with fail
          refine (HT.out _).mono ?_
          rintro e w5 ⟨A5, c5, rfl, g1, g2, g3, g4⟩
          have C5 := Lib.hid g1
          have C45 := Lib.hid (C4'.out.below g4)
          have HO5 := Lib.hid (HONE.out.can.below g4)
          have HB6 := Lib.hid (HB5.out.trans (g4.mono HB5.out.size))
          have HMU := Lib.hid (mul_ref A4 A5 m X c4 c5 w5 C45.out C5.out (by have := HLM.out; omega) (by have := HTL.out; omega))
          clear g1 g2 g3 g4
          go_wp2_with fail
          refine HMU.out.mono ?_
          rintro e w6 ⟨A6, c6, rfl, g1, g2, g3, g4⟩
          have HB7 := Lib.hid (HB6.out.trans (g4.mono HB6.out.size))
          have HNR := HNE.out A6 (some ⟨w4.heap.size, 0, none⟩) (m * X) 1 c6 1 w6 g1 (HO5.out.below g4) (by decide) (Nat.le_trans (ll_mul m X 1002 402 HLM.out HTL.out) (by decide)) (by rw [ll_1]; decide)
          rw [ll_1] at HNR
          have HNR' := Lib.hid HNR
          clear g1 g2 g3 g4 HNR HMU
          go_wp2_with fail
          refine HNR'.out.mono ?_
          rintro e w7 ⟨a, rfl, hb7, hnear⟩
          have HB8 := Lib.hid (HB7.out.trans (hb7.mono HB7.out.size))
          have HA : Hid (a ≤ wI u ∧ ∀ b, RdSpec (wF u) (wL u) (wW u) (nval s.data.toList) (p - s.data.toList.length) b → a = b) := Lib.hid ⟨hnear.le, (fun h => HCUT.out a HCT.out (by have hk := HK.out; rw [HTE.out, show p - (ld : Nat) - ((1001 : Nat) : Int) = p - (ld : Int) - 1001 from rfl, hk, HME.out]; exact h)) (near_rd_up (f := wF u) (l := wL u) (W := wW u) (m := m) (a := a) (k := (n : Int)) HKP.out (by rw [HKN.out, HXX.out, ← HI.out]; exact hnear))⟩
          have ha := HA.out.1
          have haw : IntKind.u64.wrap ((wS u : Int) + (a : Int)) = ((wS u + a : Nat) : Int) := by have h9 := HI9.out; rw [show (wS u : Int) + (a : Int) = ((wS u + a : Nat) : Int) by omega, u64_wrap]; omega
          clear hb7 hnear HNR' ha
          go_wp2_with fail
          go_ret2
          exact ⟨((wS u + a : Nat) : Int), rfl, HB8.out, .inr ⟨HF.out, a, by unfold sgnN; rw [if_pos rfl, Nat.add_comm], HA.out.2⟩⟩
        · obtain ⟨n, hn⟩ : ∃ n : Nat, -k = n := ⟨(-k).toNat, by omega⟩
          have hkn : (-k).toNat = n := by omega
          have hneg : IntKind.i64.wrap (-k) = (n : Int) := by rw [hn]; exact IntWalk.i64_in _ (by omega)
          have HT := Lib.hid (fun wx => ten_ref n (by omega) wx)
          have HTL := Lib.hid (show ll (10 ^ n) ≤ 1502 from Nat.le_trans (ll_ten _ n (Nat.le_refl _)) (by omega))
          have HTP := Lib.hid (ten_pos n)
          have HKP := Lib.hid hkp
          have HKN := Lib.hid hkn
          clear hkn hn
          generalize hxx : 10 ^ n = X at *
          have HXX := Lib.hid hxx
          clear hxx
          go_wp2_with fail
          refine (HT.out _).mono ?_
          rintro e w5 ⟨A5, c5, rfl, g1, g2, g3, g4⟩
          have HB6 := Lib.hid (HB5.out.trans (g4.mono HB5.out.size))
          have HNR := Lib.hid (HNE.out A4 A5 m X c4 c5 w5 (C4'.out.below g4) g1 HTP.out (Nat.le_trans HLM.out (by decide)) (Nat.le_trans HTL.out (by decide)))
          clear g1 g2 g3 g4
          go_wp2_with fail
          refine HNR.out.mono ?_
          rintro e w7 ⟨a, rfl, hb7, hnear⟩
          have HB8 := Lib.hid (HB6.out.trans (hb7.mono HB6.out.size))
          have HA : Hid (a ≤ wI u ∧ ∀ b, RdSpec (wF u) (wL u) (wW u) (nval s.data.toList) (p - s.data.toList.length) b → a = b) := Lib.hid ⟨hnear.le, (fun h => HCUT.out a HCT.out (by have hk := HK.out; rw [HTE.out, show p - (ld : Nat) - ((1001 : Nat) : Int) = p - (ld : Int) - 1001 from rfl, hk, HME.out]; exact h)) (near_rd_down (f := wF u) (l := wL u) (W := wW u) (m := m) (a := a) (k := k) (by have := HKP.out; omega) (by rw [HKN.out, HXX.out, ← HI.out]; exact hnear))⟩
          have ha := HA.out.1
          have haw : IntKind.u64.wrap ((wS u : Int) + (a : Int)) = ((wS u + a : Nat) : Int) := by have h9 := HI9.out; rw [show (wS u : Int) + (a : Int) = ((wS u + a : Nat) : Int) by omega, u64_wrap]; omega
          clear hb7 hnear HNR ha
          go_wp2_with fail
          go_ret2
          exact ⟨((wS u + a : Nat) : Int), rfl, HB8.out, .inr ⟨HF.out, a, by unfold sgnN; rw [if_pos rfl, Nat.add_comm], HA.out.2⟩⟩
      have hcutI : ¬ (1000 : Int) < (ps.size : Int) := by omega
      have HTF := HPF
      obtain ⟨k, hk⟩ : ∃ k : Int, p - (ld : Int) - (ps.size : Nat) = k := ⟨_, rfl⟩
      have HK := Lib.hid hk
      have k1 : -1500 ≤ k := by omega
      have k2 : k ≤ 400 := by omega
      have kw : IntKind.i64.wrap (p - (ld : Int) - (ps.size : Nat)) = k := by rw [hk]; exact IntWalk.i64_in _ (by omega)
      have HNT := Lib.hid (fun wx => natural_ref ps HTF.out (by omega) wx)
      have hm10 := nval_lt ps.data.toList (digL_of_fine _ HTF.out)
      rw [bytes_len] at hm10
      have hllm : ll (nval ps.data.toList) ≤ 1002 := Nat.le_trans (ll_ten _ ps.size (Nat.le_of_lt hm10)) (by omega)
      have HLM := Lib.hid hllm
      generalize hmm : nval ps.data.toList = m at *
      have HME := Lib.hid hmm
      clear hk hm10 hllm hmm
      go_wp2_with fail
      refine (HNT.out _).mono ?_
      rintro e w4 ⟨A4, c4, rfl, g1, g2, g3, g4⟩
      have C4 := Lib.hid g1
      have HB4 := Lib.hid (HB1.out.trans (g4.mono HB1.out.size))
      have HONE := Lib.hid (one_can w4)
      have C4' := Lib.hid (C4.out.below ((Below.refl w4.heap.size w4).alloc (Nat.le_refl _) (.cells #[.int .u32 1] 49)))
      have HB5 : Hid (Below w.heap.size w (w4.alloc (.cells #[.int .u32 1] 49))) := Lib.hid (HB4.out.alloc HB4.out.size _)
      clear g1 g2 g3 g4 C4
      by_cases hkp : 0 < k
      · obtain ⟨n, hn⟩ : ∃ n : Nat, k = n := ⟨k.toNat, by omega⟩
        have hkn : k.toNat = n := by omega
        have HT := Lib.hid (fun wx => ten_ref n (by omega) wx)
        have HTL := Lib.hid (show ll (10 ^ n) ≤ 402 from Nat.le_trans (ll_ten _ n (Nat.le_refl _)) (by omega))
        have HKP := Lib.hid hkp
        have HKN := Lib.hid hkn
        have hn1 : (0 : Int) < (n : Int) := by omega
        clear hkn hkp
        subst hn
        generalize hxx : 10 ^ n = X at *
        have HXX := Lib.hid hxx
        clear hxx
        go_wp2_with fail
        refine (HT.out _).mono ?_
        rintro e w5 ⟨A5, c5, rfl, g1, g2, g3, g4⟩
        have C5 := Lib.hid g1
        have C45 := Lib.hid (C4'.out.below g4)
        have HO5 := Lib.hid (HONE.out.can.below g4)
        have HB6 := Lib.hid (HB5.out.trans (g4.mono HB5.out.size))
        have HMU := Lib.hid (mul_ref A4 A5 m X c4 c5 w5 C45.out C5.out (by have := HLM.out; omega) (by have := HTL.out; omega))
        clear g1 g2 g3 g4
        go_wp2_with fail
        refine HMU.out.mono ?_
        rintro e w6 ⟨A6, c6, rfl, g1, g2, g3, g4⟩
        have HB7 := Lib.hid (HB6.out.trans (g4.mono HB6.out.size))
        have HNR := HNE.out A6 (some ⟨w4.heap.size, 0, none⟩) (m * X) 1 c6 1 w6 g1 (HO5.out.below g4) (by decide) (Nat.le_trans (ll_mul m X 1002 402 HLM.out HTL.out) (by decide)) (by rw [ll_1]; decide)
        rw [ll_1] at HNR
        have HNR' := Lib.hid HNR
        clear g1 g2 g3 g4 HNR HMU
        go_wp2_with fail
        refine HNR'.out.mono ?_
        rintro e w7 ⟨a, rfl, hb7, hnear⟩
        have HB8 := Lib.hid (HB7.out.trans (hb7.mono HB7.out.size))
        have HA : Hid (a ≤ wI u ∧ ∀ b, RdSpec (wF u) (wL u) (wW u) (nval s.data.toList) (p - s.data.toList.length) b → a = b) := Lib.hid ⟨hnear.le, (fun h => HJOIN.out a (by have hk := HK.out; rw [hk]; first | exact h | (rw [HME.out]; exact h))) (near_rd_up (f := wF u) (l := wL u) (W := wW u) (m := m) (a := a) (k := (n : Int)) HKP.out (by rw [HKN.out, HXX.out, ← HI.out]; exact hnear))⟩
        have ha := HA.out.1
        have haw : IntKind.u64.wrap ((wS u : Int) + (a : Int)) = ((wS u + a : Nat) : Int) := by have h9 := HI9.out; rw [show (wS u : Int) + (a : Int) = ((wS u + a : Nat) : Int) by omega, u64_wrap]; omega
        clear hb7 hnear HNR' ha
        go_wp2_with fail
        go_ret2
        exact ⟨((wS u + a : Nat) : Int), rfl, HB8.out, .inr ⟨HF.out, a, by unfold sgnN; rw [if_pos rfl, Nat.add_comm], HA.out.2⟩⟩
      · obtain ⟨n, hn⟩ : ∃ n : Nat, -k = n := ⟨(-k).toNat, by omega⟩
        have hkn : (-k).toNat = n := by omega
        have hneg : IntKind.i64.wrap (-k) = (n : Int) := by rw [hn]; exact IntWalk.i64_in _ (by omega)
        have HT := Lib.hid (fun wx => ten_ref n (by omega) wx)
        have HTL := Lib.hid (show ll (10 ^ n) ≤ 1502 from Nat.le_trans (ll_ten _ n (Nat.le_refl _)) (by omega))
        have HTP := Lib.hid (ten_pos n)
        have HKP := Lib.hid hkp
        have HKN := Lib.hid hkn
        clear hkn hn
        generalize hxx : 10 ^ n = X at *
        have HXX := Lib.hid hxx
        clear hxx
        go_wp2_with fail
        refine (HT.out _).mono ?_
        rintro e w5 ⟨A5, c5, rfl, g1, g2, g3, g4⟩
        have HB6 := Lib.hid (HB5.out.trans (g4.mono HB5.out.size))
        have HNR := Lib.hid (HNE.out A4 A5 m X c4 c5 w5 (C4'.out.below g4) g1 HTP.out (Nat.le_trans HLM.out (by decide)) (Nat.le_trans HTL.out (by decide)))
        clear g1 g2 g3 g4
        go_wp2_with fail
        refine HNR.out.mono ?_
        rintro e w7 ⟨a, rfl, hb7, hnear⟩
        have HB8 := Lib.hid (HB6.out.trans (hb7.mono HB6.out.size))
        have HA : Hid (a ≤ wI u ∧ ∀ b, RdSpec (wF u) (wL u) (wW u) (nval s.data.toList) (p - s.data.toList.length) b → a = b) := Lib.hid ⟨hnear.le, (fun h => HJOIN.out a (by have hk := HK.out; rw [hk]; first | exact h | (rw [HME.out]; exact h))) (near_rd_down (f := wF u) (l := wL u) (W := wW u) (m := m) (a := a) (k := k) (by have := HKP.out; omega) (by rw [HKN.out, HXX.out, ← HI.out]; exact hnear))⟩
        have ha := HA.out.1
        have haw : IntKind.u64.wrap ((wS u : Int) + (a : Int)) = ((wS u + a : Nat) : Int) := by have h9 := HI9.out; rw [show (wS u : Int) + (a : Int) = ((wS u + a : Nat) : Int) by omega, u64_wrap]; omega
        clear hb7 hnear HNR ha
        go_wp2_with fail
        go_ret2
        exact ⟨((wS u + a : Nat) : Int), rfl, HB8.out, .inr ⟨HF.out, a, by unfold sgnN; rw [if_pos rfl, Nat.add_comm], HA.out.2⟩⟩

set_option maxRecDepth 100000 in
set_option maxHeartbeats 4000000 in
theorem wreads (u : Int) (hu : (Lit.int .u8 u).wf = true) (neg : Bool) (s : ByteArray) (p : Int) (hs : s.size ≤ 1048576) (hp : (Lit.int .i64 p).wf = true) (w : World)
    (hL : laidMetH Tryd.prog Rows.decimalReadsUptoRow.laid w) :
    Calls Tryd.prog 5 #[.int .u8 u, .agg #[.bool neg, .string s, .int .i64 p]] w fun e w' => e = .returned (.bool true) ∧ Below w.heap.size w w' := by
  have hT : Tabs0 w := tabs0_of_list hL
  have hmin : IntKind.i64.min = -9223372036854775808 := rfl
  have hmax : IntKind.i64.max = 9223372036854775807 := rfl
  have hmin8 : IntKind.u8.min = 0 := rfl
  have hmax8 : IntKind.u8.max = 255 := rfl
  simp only [Lit.wf, Bool.and_eq_true, decide_eq_true_eq, hmin, hmax, hmin8, hmax8] at hu hp
  have HB0 : Hid (Below w.heap.size w (w.alloc (.cells #[.bool neg, .string s, .int .i64 p] 23))) := Lib.hid ((Below.refl w.heap.size w).alloc (Nat.le_refl _) _)
  have H0 := Lib.hid (dgC_new w neg s p 23)
  have HRD := Lib.hid (fun wx (h : Below w.heap.size w wx) => lread_any u hu.1 hu.2 neg s p wx (hT.below h) (by omega) hp.1 hp.2)
  have HWD := Lib.hid (fun wx => width_any u hu.1 wx)
  have HRR := Lib.hid (fun wx => rread_ref u neg s p wx hs hp.1 hp.2)
  have HSM := Lib.hid (fun v x => @RVal.same (wF u) (wL u) (wW u) (wS u) neg s p v x)
  clear hT hL hmin hmax hmin8 hmax8 hu hp hs
  unfold LPost at HRD
  go_enter Tryd.func5, Tryd.ntmps5
  have c0 := H0.out.c0
  have c1 := H0.out.c1
  have c2 := H0.out.c2
  go_wp2_with fail
  refine (HRD.out _ HB0.out).mono ?_
  rintro e w2 ⟨x, rfl, hb2, hv2⟩
  have HB2 := Lib.hid (HB0.out.trans (hb2.mono HB0.out.size))
  have H2 := Lib.hid (H0.out.below hb2)
  have HV2 := Lib.hid hv2
  clear hb2 hv2 HB0 H0 c0 c1 c2
  have HKEEP : Hid (∀ wy, Below w2.drew.heap.size w2.drew wy → wy.cell? ⟨w.heap.size, 0, none⟩ = some (.bool neg) ∧ wy.cell? ⟨w.heap.size, 1, none⟩ = some (.string s) ∧ wy.cell? ⟨w.heap.size, 2, none⟩ = some (.int .i64 p)) := Lib.hid (fun wy hb => ⟨(hb.cell (p := ⟨w.heap.size, 0, none⟩) H2.out.lt).trans H2.out.c0, (hb.cell (p := ⟨w.heap.size, 1, none⟩) H2.out.lt).trans H2.out.c1, (hb.cell (p := ⟨w.heap.size, 2, none⟩) H2.out.lt).trans H2.out.c2⟩)
  go_wp2_with fail
  go_region_held3 (fun w' => w'.cell? ⟨w.heap.size, 0, none⟩ = some (.bool neg) ∧ w'.cell? ⟨w.heap.size, 1, none⟩ = some (.string s) ∧ w'.cell? ⟨w.heap.size, 2, none⟩ = some (.int .i64 p))
    (first | exact ⟨H2.out.c0, H2.out.c1, H2.out.c2⟩ | exact HKEEP.out _ B1.out)
    (first
      | (go_at_call 15; refine (HWD.out _).mono ?_; rintro e wv ⟨rfl, hwv⟩; subst hwv)
      | (go_at_call 17; refine (HRR.out _).mono ?_; rintro e w3 ⟨v, rfl, hb3, hv3⟩; have B1 := Lib.hid hb3; have HV3 := Lib.hid hv3; clear hb3 hv3))
  have hxv := HSM.out _ _ HV3.out HV2.out
  subst hxv
  go_wp2_with fail
  go_ret
  exact ⟨rfl, (below_drewN' HB2.out 1).trans (B1.out.mono HB2.out.size)⟩
end Go.Proofs.YtgckfilmhnapeaaDoor
