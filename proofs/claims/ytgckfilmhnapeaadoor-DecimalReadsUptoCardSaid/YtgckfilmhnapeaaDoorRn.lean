/- The reference's decimal: crucibleref07.natural, ten. -/
import Derived.Test.YtgckfilmhnapeaaDoorRm
import Derived.Test.YtgckfilmhnapeaaDoorXv
import Derived.Test.YtgckfilmhnapeaaDoorStrB
namespace Go.Proofs.YtgckfilmhnapeaaDoor
open Go.RowKit Go.Lib
set_option linter.unusedVariables false

/-- the number of the first digits -/
def nv (s : ByteArray) (i : Nat) : Nat := nval (s.data.toList.take i)
theorem nv_zero (s : ByteArray) : nv s 0 = 0 := rfl
theorem nv_full (s : ByteArray) : nv s s.size = nval s.data.toList := by unfold nv; rw [List.take_of_length_le (by rw [bytes_len]; exact Nat.le_refl _)]
theorem nv_succ (s : ByteArray) (i : Nat) (h : i < s.size) : nv s (i + 1) = 10 * nv s i + ((s[i]).toNat - 48) := by
  unfold nv
  have hl : i < s.data.toList.length := by rw [bytes_len]; exact h
  rw [List.take_succ_eq_append_getElem hl, nval_snoc, bytes_at s i h]
  omega
/-- what is carried over k bytes -/
def cn (N d k : Nat) : Nat := (10 * (N % 256 ^ k) + d) / 256 ^ k
theorem cn_zero (N d : Nat) : cn N d 0 = d := by simp [cn, Nat.mod_one]
theorem cn_le (N d k : Nat) (h : d ≤ 9) : cn N d k ≤ 9 := by
  unfold cn
  have h0 : 0 < 256 ^ k := Nat.pow_pos (by decide)
  have h1 := Nat.mod_lt N h0
  have : (10 * (N % 256 ^ k) + d) / 256 ^ k < 10 := (Nat.div_lt_iff_lt_mul h0).2 (by omega)
  omega
theorem cn_eq (N d k : Nat) : (10 * N + d) / 256 ^ k = 10 * (N / 256 ^ k) + cn N d k := by
  unfold cn
  have h := Nat.div_add_mod N (256 ^ k)
  have e : 10 * N + d = 10 * (N % 256 ^ k) + d + 256 ^ k * (10 * (N / 256 ^ k)) := by
    have := congrArg (10 * ·) h
    simp only [Nat.mul_add] at this
    rw [← this, Nat.mul_left_comm]
    omega
  rw [e, Nat.add_mul_div_left _ _ (Nat.pow_pos (by decide)), Nat.add_comm]
theorem cn_step (N d k : Nat) : (10 * (N / 256 ^ k % 256) + cn N d k) % 256 = (10 * N + d) / 256 ^ k % 256 ∧ (10 * (N / 256 ^ k % 256) + cn N d k) / 256 = cn N d (k + 1) := by
  have h1 := cn_eq N d k
  have h2 := cn_eq N d (k + 1)
  rw [Nat.pow_succ, ← Nat.div_div_eq_div_mul, ← Nat.div_div_eq_div_mul] at h2
  generalize (10 * N + d) / 256 ^ k = a at *
  generalize N / 256 ^ k = b at *
  generalize cn N d k = c at *
  generalize cn N d (k + 1) = e at *
  omega
theorem cn_end (N d L : Nat) (h : N < 256 ^ L) : (10 * N + d) / 256 ^ L = cn N d L := by
  rw [cn_eq, Nat.div_eq_of_lt h]
  omega
def NtO (w : World) (s : ByteArray) (v3 v4 : Value) (wr : World) : Prop :=
  ∃ i L : Nat, i ≤ s.size ∧ L ≤ i ∧ nv s i < 256 ^ L ∧ v4 = .int .i64 i ∧ wr.ownsRow w.heap.size 3 1 v3 L (vals .i64 (digs 256 (nv s i) L)) ∧ Below w.heap.size w wr
def NtI (w : World) (N d L : Nat) (v3 v5 v6 : Value) (wr : World) : Prop :=
  ∃ k : Nat, k ≤ L ∧ v5 = .int .i64 ((cn N d k : Nat) : Int) ∧ v6 = .int .i64 k ∧ wr.ownsRow w.heap.size 3 1 v3 L (vals .i64 (mixB (10 * N + d) N k L)) ∧ Below w.heap.size w wr
def NtL (w : World) (g m : Nat) (bs : List Nat) (i : Value) (wr : World) : Prop :=
  ∃ k : Nat, k ≤ bs.length ∧ ((k = 0 ∧ i = .int .i64 (-1)) ∨ (∃ j : Nat, k = j + 1 ∧ i = .int .i64 j)) ∧ wr.ownsRow w.heap.size 49 1 (.slice (some ⟨g, 0, none⟩) m m) m (vals .u32 (lst bs m k)) ∧ Below w.heap.size w wr
theorem mix_zero (M N L : Nat) : mixB M N 0 L = digs 256 N L := by unfold mixB; rw [digs_zero]; rfl
theorem mix_full (M N L : Nat) : mixB M N L L = digs 256 M L := by unfold mixB; rw [List.drop_of_length_le (by rw [digs_len]; exact Nat.le_refl _), List.append_nil]

set_option maxRecDepth 100000 in
set_option maxHeartbeats 4000000 in
theorem natural_ref (s : ByteArray) (hf : fineB s = true) (hn : s.size ≤ 8192) (w : World) :
    Calls Tryd.prog 45 #[.string s] w (NatPost w (nval s.data.toList)) := by
  obtain ⟨i0, hi, hz0, hz1, hz2⟩ := info_parts info_int
  obtain ⟨i2, hi', hy0, hy1, hy2⟩ := info_parts info_u32
  have HD : Hid (∀ i, (h : i < s.size) → 48 ≤ (s[i]).toNat ∧ (s[i]).toNat ≤ 57) := Lib.hid (fun i h => by
    have := digL_of_fine _ hf (s.data.toList[i]'(by rw [bytes_len]; exact h)) (List.getElem_mem _)
    rw [bytes_at s i h] at this
    exact this)
  rw [← nv_full]
  clear hf
  go_enter Tryd.func45, Tryd.ntmps45
  go_wp2_with fail
  go_loopw [3, 4] (fun v3 v4 wr => NtO w s v3 v4 wr) (fun _ v4 _ => s.size - (RowKit.intOf v4).toNat)
  case atStart => exact ⟨0, 0, Nat.zero_le _, Nat.le_refl _, by rw [nv_zero]; decide, rfl, ⟨rfl, .inl ⟨rfl, rfl⟩⟩, Below.refl _ _⟩
  case round =>
    obtain ⟨i, L, his, hLi, hlt256, rfl, hown, hbel⟩ := hrel
    have HO := Lib.hid hown
    have HB := Lib.hid hbel
    have HLT := Lib.hid hlt256
    clear hown hbel hlt256
    by_cases hlt : i < s.size
    · obtain ⟨hc1, hc2⟩ := HD.out i hlt
      have HNV := Lib.hid (nv_succ s i hlt)
      obtain ⟨A3, c3, rfl, h3c, h3m, -, -⟩ := own_rd HO.out
      obtain ⟨d, hd⟩ : ∃ d, (s[i]).toNat - 48 = d := ⟨_, rfl⟩
      rw [hd] at HNV
      have hcI : ((s[i]).toNat : Int) - 48 = (d : Int) := by omega
      have hd9 : d ≤ 9 := by omega
      have hw8 : IntKind.u8.wrap (d : Int) = (d : Int) := IntWalk.u8_in _ (by omega)
      have hltI : (i : Int) < (s.size : Int) := by omega
      obtain ⟨wo, rfl⟩ : ∃ wo : World, wo = wr := ⟨_, rfl⟩
      have HD9 := Lib.hid hd9
      clear hc1 hc2 hd h3m
      generalize hNN : nv s i = N at *
      have HNN := Lib.hid hNN
      clear hNN
      go_wp2_with fail
      go_loopw [5, 6] (fun v5 v6 wr => NtI w N d L (.slice A3 L c3) v5 v6 wr) (fun _ v6 _ => L - (RowKit.intOf v6).toNat)
      case atStart => exact ⟨0, Nat.zero_le _, by rw [cn_zero], rfl, by rw [mix_zero]; exact HO.out, HB.out⟩
      case round =>
        obtain ⟨k, hkL, rfl, rfl, hown, hbel⟩ := hrel
        have HO2 := Lib.hid hown
        have HB2 := Lib.hid hbel
        clear hown hbel
        have hc9 := cn_le N d k HD9.out
        by_cases hk : k < L
        · obtain ⟨g, cap, hv, hgb, hgl⟩ := HO2.out.form (by omega)
          injection hv with e1 e2 e3
          subst e1
          have hfz := HO2.out.frozenAt k
          have hcell := HO2.out.cellAt k (by omega)
          rw [vals_get _ _ _ (by rw [mixD_lenB _ _ _ _ (by omega)]; exact hk), mixD_getB _ _ _ _ hk] at hcell
          have hset := mixD_set0B (10 * N + d) N k L hk
          obtain ⟨s1, s2⟩ := cn_step N d k
          rw [← s1] at hset
          have hy : N / 256 ^ k % 256 < 256 := Nat.mod_lt _ (by decide)
          generalize N / 256 ^ k % 256 = y at *
          generalize cn N d k = c at *
          generalize hnE : cn N d (k + 1) = c' at *
          have HNE := Lib.hid hnE
          obtain ⟨x, hx⟩ : ∃ x, 10 * y + c = x := ⟨_, rfl⟩
          rw [hx] at s1 s2 hset
          obtain ⟨z, hz⟩ : ∃ z, x % 256 = z := ⟨_, rfl⟩
          rw [hz] at hset
          have hxI : 10 * (y : Int) + (c : Int) = (x : Int) := by omega
          have j1 : (x : Int) % 256 = (z : Int) := by omega
          have j2 : (x : Int) / 256 = (c' : Int) := by omega
          have j3 : (x : Int).tmod 256 = (z : Int) := by rw [Int.tmod_eq_emod_of_nonneg (by omega)]; exact j1
          have j4 : (x : Int).tdiv 256 = (c' : Int) := by rw [Int.tdiv_eq_ediv_of_nonneg (by omega)]; exact j2
          have q0 : (0 : Int) ≤ (x : Int) := by omega
          have q1 : (x : Int) ≤ 2600 := by omega
          have q2 : (c : Int) ≤ 9 := by omega
          have q3 : (y : Int) ≤ 255 := by omega
          have q4 : (c' : Int) ≤ 20 := by omega
          have q5 : (z : Int) ≤ 255 := by omega
          have q6 : (k : Int) < (L : Int) := by omega
          have HST : Hid ((wr.setCell ⟨g, k, none⟩ (.int .i64 (z : Int))).ownsRow w.heap.size 3 1 (.slice (some ⟨g, 0, none⟩) L c3) L (vals .i64 (mixB (10 * N + d) N (k + 1) L))) := Lib.hid (by
            have h := (HO2.out.stored k (.int .i64 ((z : Nat) : Int))).1
            rw [vals_set, hset] at h
            exact h)
          have HBN : Hid (Below w.heap.size w (wr.setCell ⟨g, k, none⟩ (.int .i64 (z : Int)))) := Lib.hid (HB2.out.setCell (p := ⟨g, k, none⟩) (HO2.out.lt g rfl).1 _)
          clear hset s1 s2 hx hz hnE hc9 hy hgb hgl
          go_wp2_with fail
          go_roundw
          case rel => exact ⟨k + 1, by omega, by rw [HNE.out], by go_num, HST.out, HBN.out⟩
          case measure => simp [RowKit.intOf]; omega
        · obtain rfl : k = L := by omega
          have HE := Lib.hid (cn_end N d k HLT.out)
          rw [mix_full] at HO2
          by_cases hc0 : cn N d k = 0
          · have HM : Hid (10 * N + d < 256 ^ k) := Lib.hid (by
              rcases Nat.lt_or_ge (10 * N + d) (256 ^ k) with g | g
              · exact g
              · have := Nat.div_pos g (Nat.pow_pos (n := k) (show 0 < 256 by decide))
                have := HE.out
                omega)
            rw [hc0, show ((0 : Nat) : Int) = 0 from rfl]
            clear hc0 hc9
            go_wp2_with fail
            go_roundw
            case rel => exact ⟨i + 1, k, by omega, by omega, by rw [HNV.out]; exact HM.out, by go_num, by rw [HNV.out]; exact HO2.out, HB2.out⟩
            case measure => simp [RowKit.intOf]; omega
          · have HM : Hid (10 * N + d < 256 ^ (k + 1)) := Lib.hid (by
              have h1 := HE.out
              rw [Nat.pow_succ]
              have h2 : (10 * N + d) / 256 ^ k < 256 := by omega
              have h3 := (Nat.div_lt_iff_lt_mul (Nat.pow_pos (n := k) (show 0 < 256 by decide))).1 h2
              omega)
            have HSU : Hid (digs 256 (10 * N + d) (k + 1) = digs 256 (10 * N + d) k ++ [cn N d k]) := Lib.hid (by rw [digs_succ, HE.out, Nat.mod_eq_of_lt (by omega)])
            clear HE
            generalize cn N d k = c at *
            have hcp : (0 : Int) < (c : Int) := by omega
            have hcq : (c : Int) ≤ 9 := by omega
            clear hc0 hc9
            go_wp2_with (at_builtin; refine wpList_append_own _ rfl _ _ 69 rfl w.heap.size 3 i0 (.int .i64 0) 1 8 Tryd.underlying69 hi hz0 hz1 hz2 rfl (by decide) _ _ _ rfl (HO2.out.alloc _) ⟨wr.heap.size, 0, none⟩ 1 1 [.int .i64 (c : Int)] rfl rfl ?c1 ?c2 ?c3 ?c4 ?c5 ?_)
            case c1 => exact (cell_one_new _ _ _)
            case c2 => exact one_oneCell rfl
            case c3 => unfold maxLen; omega
            case c4 => omega
            case c5 => have := HB2.out.size; simp; omega
            intro v2 w2 hown2 hg2 _
            have HO5 := Lib.hid hown2
            have HB5 := Lib.hid ((HB2.out.alloc HB2.out.size _).grown hg2 (by have := HB2.out.size; simp; omega) (fun q hq => (HO2.out.lt q hq).1))
            clear hown2 hg2
            go_wp2_with fail
            go_roundw
            case rel =>
              refine ⟨i + 1, k + 1, by omega, by omega, by rw [HNV.out]; exact HM.out, by go_num, ?_, HB5.out⟩
              rw [HNV.out, HSU.out, vals_append, vals_one]
              exact HO5.out
            case measure => simp [RowKit.intOf]; omega
    · obtain rfl : i = s.size := by omega
      obtain ⟨A3, c3, rfl, h3c, h3m, -, hrd⟩ := own_rd HO.out
      have HR3 := Lib.hid hrd
      obtain ⟨bs, hbs⟩ : ∃ bs, bs = digs 256 (nv s s.size) L := ⟨_, rfl⟩
      have hbl : bs.length = L := by rw [hbs, digs_len]
      have HXB : Hid (∀ x ∈ bs, x < 256) := Lib.hid (by rw [hbs]; exact digs_lt 256 _ _ (by decide))
      have HVAL : Hid (bval 4294967296 (lst bs ((L + 3) / 4) 0) = nv s s.size) := Lib.hid (by
        rw [lst_val bs _ (by omega), hbs]
        exact digs_all 256 _ _ HLT.out)
      rw [← hbs] at HR3
      have HNR := Lib.hid (fun wx hr => norm_ref (some ⟨wr.heap.size, 0, none⟩) ((L + 3) / 4) ((L + 3) / 4) (lst bs ((L + 3) / 4) 0) wx (lst_len _ _ _) hr (lst_lt bs HXB.out _ _) (by omega))
      rw [HVAL.out] at HNR
      obtain ⟨w4, hw4⟩ : ∃ w4 : World, w4 = wr := ⟨_, rfl⟩
      subst hw4
      clear hrd hbs HO HLT HVAL h3m
      go_wp2_with (at_make; refine wpList_make_full _ rfl _ _ 47 rfl w4.heap.size 49 i2 (.int .u32 0) 1 Tryd.underlying47 hi' hy0 hy1 _ _ _ _ ((L + 3) / 4) rfl rfl ?c0 ?c1 ?c2 ?c3 ?c4 ?_)
      case c0 => omega
      case c1 => omega
      case c2 => rw [hy2]; omega
      case c3 => unfold maxLen; omega
      case c4 => exact Nat.le_refl _
      intro w1 hown1 hg1
      rw [made_vals] at hown1
      have HO1 := Lib.hid hown1
      have HB1 : Hid (Below w4.heap.size w4 w1) := Lib.hid ((Below.refl _ _).grown hg1 (Nat.le_refl _) (fun _ h => by cases h))
      clear hown1 hg1
      go_wp2_with fail
      go_loopw [9] (fun i wr => NtL w4 w4.heap.size ((L + 3) / 4) bs i wr) (fun i _ => (RowKit.intOf i + 1).toNat)
      case atStart =>
        refine ⟨bs.length, Nat.le_refl _, ?_, by rw [lst_start]; exact HO1.out, HB1.out⟩
        by_cases h0 : bs.length = 0
        · exact Or.inl ⟨h0, by congr 1; omega⟩
        · exact Or.inr ⟨bs.length - 1, by omega, by congr 1; omega⟩
      case round =>
        obtain ⟨k, hk, hki, hown, hbel⟩ := hrel
        have HO := Lib.hid hown
        have HB4 := Lib.hid hbel
        clear hown hbel
        rcases hki with ⟨rfl, rfl⟩ | ⟨j, rfl, rfl⟩
        · obtain ⟨A', c, he, hnc, hcm', hcl, hrd⟩ := own_rd HO.out
          injection he with he1 he2 he3
          subst he1
          have HN1 := Lib.hid (HNR.out wr hrd)
          clear he2 he3 hcl hrd hnc hcm'
          go_wp2_with fail
          refine HN1.out.mono ?_
          rintro e w7 ⟨A7, c7, rfl, k1, k2, k3, k4⟩
          have K1 := Lib.hid k1
          have HB7 := Lib.hid (HB.out.trans ((HB4.out.trans (k4.mono HB4.out.size)).mono HB.out.size))
          clear k1 k4
          go_wp2_with fail
          go_ret
          exact ⟨A7, c7, rfl, K1.out, k2, k3, HB7.out⟩
        · obtain ⟨b, off, rfl, hcell⟩ := (HR3.out.below HB4.out).val (show j < bs.length by omega)
          have hcell2 := HO.out.cellAt (j / 4) (by omega)
          rw [vals_get _ _ _ (by rw [lst_len]; omega), lst_get _ _ _ _ (by omega)] at hcell2
          have hfz := HO.out.frozenAt (j / 4)
          have hst := (HO.out.stored (j / 4) (.int .u32 ((256 * limbAt bs (j + 1) (j / 4) + bs.getD j 0 : Nat) : Int))).1
          rw [vals_set, lst_step bs _ j (by omega)] at hst
          have HST := Lib.hid hst
          have hz1 : limbAt bs (j + 1) (j / 4) < 16777216 := by
            refine Nat.lt_of_lt_of_le (limb_lt bs HXB.out (j + 1) (j / 4)) ?_
            have : 256 ^ (4 * (j / 4) + 4 - max (j + 1) (4 * (j / 4))) ≤ 256 ^ 3 := Nat.pow_le_pow_right (by decide) (by omega)
            exact this
          have hy1' : bs.getD j 0 < 256 := getD_lt (by decide) HXB.out j
          clear hst
          generalize limbAt bs (j + 1) (j / 4) = z at *
          generalize bs.getD j 0 = y at *
          have q1 : IntKind.u32.wrap (256 * (z : Int)) = 256 * (z : Int) := IntWalk.u32_in _ (by omega)
          have q2 : IntKind.u32.wrap (256 * (z : Int) + y) = 256 * (z : Int) + y := IntWalk.u32_in _ (by omega)
          have q3 : IntKind.u32.wrap (y : Int) = (y : Int) := IntWalk.u32_in _ (by omega)
          go_wp2_with fail
          have hcellD : ({ heap := wr.heap, tape := wr.tape, drawn := wr.drawn + 1, os := wr.os, output := wr.output } : World).cell? ⟨b, off + j, none⟩ = some (.int .i64 y) := hcell
          have hcellD2 : ({ heap := wr.heap, tape := wr.tape, drawn := wr.drawn + 1, os := wr.os, output := wr.output } : World).cell? ⟨w4.heap.size, j / 4, none⟩ = some (.int .u32 z) := hcell2
          have r4 : j / 4 < (L + 3) / 4 := by omega
          have r1 : IntKind.i64.wrap ((j : Int) / 4) = (j : Int) / 4 := IntWalk.i64_in _ (by omega)
          have r2 : 0 ≤ (j : Int) / 4 := by omega
          have r3 : ((j : Int) / 4).toNat = j / 4 := by omega
          have r5 : (j : Int) / 4 < ((L : Int) + 3) / 4 := by omega
          have r6 : (j : Int) < L := by omega
          go_still_tail 16, (by kernel_rfl)
          change wpList _ _ _ _ _ wr.drew
          go_wp2_with fail
          have hst2 := HST.out
          rw [show ((256 * z + y : Nat) : Int) = 256 * (z : Int) + y from by omega] at hst2
          refine ⟨⟨j, by omega, ?_, World.ownsRow.drew hst2, ?_⟩, by simp [RowKit.intOf]⟩
          · by_cases hj0 : j = 0
            · exact Or.inl ⟨hj0, by subst hj0; rfl⟩
            · exact Or.inr ⟨j - 1, by omega, by congr 1; omega⟩
          · exact (HB4.out.setCell (p := ⟨w4.heap.size, j / 4, none⟩) (Nat.le_refl _) _).drew

/-- a digit 1 and noughts -/
def tn (n i : Nat) : List Nat := (List.range (n + 1)).map (fun j => if j = 0 then 49 else if j < i then 48 else 0)
theorem tn_len (n i : Nat) : (tn n i).length = n + 1 := by unfold tn; rw [List.length_map, List.length_range]
theorem tn_first (n : Nat) : (List.replicate (n + 1) 0).set 0 49 = tn n 1 := by
  apply List.ext_getElem
  · rw [List.length_set, List.length_replicate, tn_len]
  · intro j h1 h2
    rw [List.getElem_set]
    simp only [tn, List.getElem_map, List.getElem_range, List.getElem_replicate]
    by_cases h : j = 0
    · subst h; rfl
    · rw [if_neg (fun e => h e.symm), if_neg h, if_neg (by omega)]
theorem tn_set (n i : Nat) (hi : 1 ≤ i) : (tn n i).set i 48 = tn n (i + 1) := by
  apply List.ext_getElem
  · rw [List.length_set, tn_len, tn_len]
  · intro j h1 h2
    rw [List.getElem_set]
    by_cases h : i = j
    · subst h
      rw [if_pos rfl]
      simp only [tn, List.getElem_map, List.getElem_range]
      rw [if_neg (by omega), if_pos (by omega)]
    · rw [if_neg h]
      simp only [tn, List.getElem_map, List.getElem_range]
      by_cases h0 : j = 0
      · rw [if_pos h0, if_pos h0]
      · rw [if_neg h0, if_neg h0]
        by_cases h3 : j < i
        · rw [if_pos h3, if_pos (by omega)]
        · rw [if_neg h3, if_neg (by omega)]
theorem tn_full (n : Nat) : tn n (n + 1) = 49 :: List.replicate n 48 := by
  apply List.ext_getElem
  · rw [tn_len, List.length_cons, List.length_replicate]
  · intro j h1 h2
    simp only [tn, List.getElem_map, List.getElem_range]
    rw [tn_len] at h1
    cases j with
    | zero => rfl
    | succ j => rw [if_neg (by omega), if_pos (by omega), List.getElem_cons_succ, List.getElem_replicate]
theorem tn_mem (n : Nat) : ∀ x ∈ tn n (n + 1), x < 256 := by
  intro x hx
  rw [tn_full] at hx
  rcases List.mem_cons.1 hx with h | h
  · omega
  · have := (List.mem_replicate.1 h).2
    omega
theorem tn_text (n : Nat) : (strOf (tn n (n + 1))).data.toList = 49 :: List.replicate n 48 ∧ fineB (strOf (tn n (n + 1))) = true ∧ nval (strOf (tn n (n + 1))).data.toList = 10 ^ n := by
  have e : (strOf (tn n (n + 1))).data.toList = 49 :: List.replicate n 48 := by
    rw [tn_full]
    unfold strOf
    simp
  refine ⟨e, ?_, ?_⟩
  · unfold fineB
    rw [e]
    apply fine_of_digL
    intro c hc
    rcases List.mem_cons.1 hc with h | h
    · subst h; decide
    · rw [(List.mem_replicate.1 h).2]; decide
  · rw [e, nval_cons, nval_noughts, List.length_replicate]
    show (49 - 48) * 10 ^ n + 0 = 10 ^ n
    omega
def TnRel (w : World) (g n : Nat) (v4 : Value) (wr : World) : Prop :=
  ∃ i : Nat, 1 ≤ i ∧ i ≤ n + 1 ∧ v4 = .int .i64 i ∧ wr.ownsRow w.heap.size 5 1 (.slice (some ⟨g, 0, none⟩) (n + 1) (n + 1)) (n + 1) (vals .u8 (tn n i)) ∧ Below w.heap.size w wr
set_option maxRecDepth 100000 in
set_option maxHeartbeats 4000000 in
theorem ten_ref (n : Nat) (hn : n ≤ 8000) (w : World) : Calls Tryd.prog 47 #[.int .i64 n] w (NatPost w (10 ^ n)) := by
  obtain ⟨i0, hi, hz0, hz1, hz2⟩ := info_parts info_u8
  obtain ⟨t1, t2, t3⟩ := tn_text n
  have HNT := Lib.hid (fun wx => natural_ref (strOf (tn n (n + 1))) t2 (by rw [← bytes_len, t1]; simp; omega) wx)
  rw [t3] at HNT
  clear t1 t2 t3
  go_enter Tryd.func47, Tryd.ntmps47
  go_wp2_with (at_make; refine wpList_make_full _ rfl _ _ 42 rfl w.heap.size 5 i0 (.int .u8 0) 1 Tryd.underlying42 hi hz0 hz1 _ _ _ _ (n + 1) rfl rfl ?c0 ?c1 ?c2 ?c3 ?c4 ?_)
  (try (case c0 => omega))
  (try (case c1 => omega))
  (try (case c2 => first | (rw [hz2]; omega) | omega))
  (try (case c3 => first | (unfold maxLen; omega) | omega))
  (try (case c4 => exact Nat.le_refl _))
  intro w1 hown1 hg1
  rw [made_vals] at hown1
  have HO1 := Lib.hid hown1
  have HB1 : Hid (Below w.heap.size w w1) := Lib.hid ((Below.refl _ _).grown hg1 (Nat.le_refl _) (fun _ h => by cases h))
  clear hown1 hg1
  obtain ⟨g, hg⟩ : ∃ g, w.heap.size = g := ⟨_, rfl⟩
  have HG := Lib.hid hg
  rw [hg] at HO1 HB1 ⊢
  clear hg
  have hfz := HO1.out.frozenAt 0
  have hcell := HO1.out.cellAt 0 (by omega)
  rw [vals_get _ _ _ (by rw [List.length_replicate]; omega)] at hcell
  have HO2 : Hid ((w1.setCell ⟨g, 0, none⟩ (.int .u8 49)).ownsRow g 5 1 (.slice (some ⟨g, 0, none⟩) (n + 1) (n + 1)) (n + 1) (vals .u8 (tn n 1))) := Lib.hid (by
    have h := (HO1.out.stored 0 (.int .u8 ((49 : Nat) : Int))).1
    rw [vals_set, tn_first] at h
    exact h)
  have HB2 : Hid (Below g w (w1.setCell ⟨g, 0, none⟩ (.int .u8 49))) := Lib.hid (HB1.out.setCell (p := ⟨g, 0, none⟩) (Nat.le_refl _) _)
  have hn0 : (0 : Int) < (n : Int) + 1 := by omega
  go_wp2_with fail
  go_loopw [4] (fun v4 wr => TnRel w g n v4 wr) (fun v4 _ => n + 1 - (RowKit.intOf v4).toNat)
  case atStart => exact ⟨1, Nat.le_refl _, by omega, rfl, by rw [HG.out]; exact HO2.out, by rw [HG.out]; exact HB2.out⟩
  case round =>
    obtain ⟨i, hi1, hi2, rfl, hown, hbel⟩ := hrel
    have HO := Lib.hid hown
    have HB := Lib.hid hbel
    clear hown hbel
    by_cases hle : i ≤ n
    · have hleI : (i : Int) ≤ (n : Int) := by omega
      have hltI : (i : Int) < (n : Int) + 1 := by omega
      have hfz := HO.out.frozenAt i
      have hcell := HO.out.cellAt i (by omega)
      rw [vals_get _ _ _ (by rw [tn_len]; omega)] at hcell
      have HST : Hid ((wr.setCell ⟨g, i, none⟩ (.int .u8 48)).ownsRow w.heap.size 5 1 (.slice (some ⟨g, 0, none⟩) (n + 1) (n + 1)) (n + 1) (vals .u8 (tn n (i + 1)))) := Lib.hid (by
        have h := (HO.out.stored i (.int .u8 ((48 : Nat) : Int))).1
        rw [vals_set, tn_set n i hi1] at h
        exact h)
      have HBN : Hid (Below w.heap.size w (wr.setCell ⟨g, i, none⟩ (.int .u8 48))) := Lib.hid (HB.out.setCell (p := ⟨g, i, none⟩) (by rw [HG.out]; exact Nat.le_refl _) _)
      go_wp2_with fail
      go_roundw
      case rel => exact ⟨i + 1, by omega, by omega, by go_num, HST.out, HBN.out⟩
      case measure => simp [RowKit.intOf]; omega
    · obtain rfl : i = n + 1 := by omega
      have hleI : ¬ ((n + 1 : Nat) : Int) ≤ (n : Int) := by omega
      have hcv := row_string (tn_mem n) (tn_len n (n + 1)) HO.out (by omega)
      go_wp2_with fail
      refine (HNT.out _).mono ?_
      rintro e w7 ⟨A7, c7, rfl, k1, k2, k3, k4⟩
      have K1 := Lib.hid k1
      have HB7 := Lib.hid (HB.out.trans (k4.mono HB.out.size))
      clear k1 k4
      go_wp2_with fail
      go_ret
      exact ⟨A7, c7, rfl, K1.out, k2, k3, HB7.out⟩
end Go.Proofs.YtgckfilmhnapeaaDoor
