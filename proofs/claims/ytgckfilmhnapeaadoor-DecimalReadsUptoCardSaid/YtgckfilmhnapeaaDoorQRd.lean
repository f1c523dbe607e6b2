/- The program's quot: Read, of digits that do not begin with 0. -/
import Derived.Test.YtgckfilmhnapeaaDoorQDiv
import Derived.Test.YtgckfilmhnapeaaDoorDec3
import Derived.Deep.DeepCutAuto
namespace Go.Proofs.YtgckfilmhnapeaaDoor
open Go.RowKit
set_option linter.unusedVariables false

/-- the carry of a product with a small number and one more -/
def acar (O t n k : Nat) : Nat := (O % 4294967296 ^ k * t + n) / 4294967296 ^ k
theorem acar_eq (O t n k : Nat) : (O * t + n) / 4294967296 ^ k = O / 4294967296 ^ k * t + acar O t n k := by
  have hp := pow_posL k
  unfold acar
  have h1 := Nat.div_add_mod O (4294967296 ^ k)
  generalize 4294967296 ^ k = P at *
  have : O * t + n = P * (O / P * t) + (O % P * t + n) := by
    conv => lhs; rw [← h1]
    rw [Nat.add_mul, Nat.mul_assoc, Nat.add_assoc]
  conv => lhs; rw [this]
  rw [Nat.mul_add_div hp]
theorem acar_zero (O t n : Nat) : acar O t n 0 = n := by simp [acar, Nat.mod_one]
theorem acar_lt (O t n k : Nat) (h : n < t) : acar O t n k < t := by
  have hp := pow_posL k
  unfold acar
  rw [Nat.div_lt_iff_lt_mul hp, Nat.mul_comm t]
  have h2 : (O % 4294967296 ^ k + 1) * t ≤ 4294967296 ^ k * t := Nat.mul_le_mul_right _ (Nat.mod_lt O hp)
  rw [Nat.add_mul, Nat.one_mul] at h2
  omega
theorem acar_step (O t n k : Nat) : (acar O t n k + O / 4294967296 ^ k % 4294967296 * t) % 4294967296 = (O * t + n) / 4294967296 ^ k % 4294967296 ∧
    (acar O t n k + O / 4294967296 ^ k % 4294967296 * t) / 4294967296 = acar O t n (k + 1) := by
  have h := acar_eq O t n k
  have h2 := acar_eq O t n (k + 1)
  rw [div_succL, div_succL, h] at h2
  rw [h]
  generalize O / 4294967296 ^ k = x at *
  generalize acar O t n k = c at *
  generalize acar O t n (k + 1) = d at *
  have hx := Nat.div_add_mod x 4294967296
  have e : x * t = 4294967296 * (x / 4294967296 * t) + x % 4294967296 * t := by
    conv => lhs; rw [← hx]
    rw [Nat.add_mul, Nat.mul_assoc]
  generalize x / 4294967296 * t = u at *
  generalize x % 4294967296 * t = v at *
  omega
theorem byte_ne' (c : UInt8) (h : c ≠ 48) : ((c.toNat : Int) == 48) = false := by
  rw [beq_eq_false_iff_ne]
  intro h2
  apply h
  have : c.toNat = 48 := by omega
  exact UInt8.toNat_inj.1 this
theorem str_ne (s : ByteArray) (h : 0 < s.size) : s.toList.isEmpty = false := by
  rw [Lib.toList_data]
  have : s.data.toList.length = s.size := bytes_len s
  cases hl : s.data.toList with
  | nil => rw [hl] at this; simp at this; omega
  | cons a b => rfl
def digitsL (l : List UInt8) : Prop := ∀ c ∈ l, 48 ≤ c.toNat ∧ c.toNat ≤ 57
theorem digits_of_fine (l : List UInt8) (h : fineL l = true) : digitsL l := by
  intro c hc
  have := List.all_eq_true.1 h c hc
  simpa [dgB] using this
theorem row_form {w : World} {base n c : Nat} {A : Option Addr} {xs : List Value} (h : w.ownsRow base 49 1 (.slice A n c) n xs) (hn : 0 < n) : ∃ g, A = some ⟨g, 0, none⟩ ∧ base ≤ g := by
  rcases h.2 with ⟨h1, h2⟩ | ⟨g, cap, cur, h1, hb, _⟩
  · omega
  · injection h1 with e1 e2 e3
    exact ⟨g, e1, hb⟩
def RdRel (w : World) (l : List UInt8) (v5 v6 : Value) (wr : World) : Prop :=
  ∃ i m : Nat, i ≤ l.length ∧ m ≤ i ∧ v6 = .int .i64 i ∧ OwnL wr w.heap.size v5 (nval (l.take i)) m ∧ nval (l.take i) < 4294967296 ^ m ∧ Below w.heap.size w wr
def RdIn (l : List UInt8) (i : Nat) (v6 v7 v8 : Value) : Prop :=
  ∃ k : Nat, k ≤ 9 ∧ i + k ≤ l.length ∧ v6 = .int .i64 ((i + k : Nat) : Int) ∧ v7 = .int .u32 (nval ((l.drop i).take k) : Nat) ∧ v8 = .int .u32 ((10 ^ k : Nat) : Int)
def RdMid (l : List UInt8) (i : Nat) (wo : World) (v6 v7 v8 : Value) (wx : World) : Prop :=
  ∃ k : Nat, 1 ≤ k ∧ k ≤ 9 ∧ i + k ≤ l.length ∧ v6 = .int .i64 ((i + k : Nat) : Int) ∧ v7 = .int .u32 (nval ((l.drop i).take k) : Nat) ∧ v8 = .int .u32 ((10 ^ k : Nat) : Int) ∧ wx = wo
def RdIn4 (w : World) (O t n m : Nat) (A : Option Addr) (c : Nat) (v9 v66 : Value) (wr : World) : Prop :=
  ∃ k : Nat, k ≤ m ∧ v66 = .int .i64 k ∧ v9 = .int .u64 (acar O t n k : Nat) ∧ wr.ownsRow w.heap.size 49 1 (.slice A m c) m (vals .u32 (mixD (O * t + n) O k m)) ∧ Below w.heap.size w wr
theorem nval_take_succ (l : List UInt8) (k : Nat) (h : k < l.length) : nval (l.take (k + 1)) = nval (l.take k) * 10 + ((l[k]).toNat - 48) := by
  rw [List.take_succ_eq_append_getElem h, nval_snoc]
theorem nval_parts (l : List UInt8) (i k : Nat) (h : i + k ≤ l.length) : nval (l.take (i + k)) = nval (l.take i) * 10 ^ k + nval ((l.drop i).take k) := by
  have : l.take (i + k) = l.take i ++ (l.drop i).take k := by rw [List.take_add]
  rw [this, nval_append, List.length_take, List.length_drop, Nat.min_eq_left (by omega)]
set_option maxRecDepth 100000 in
set_option maxHeartbeats 3000000 in
theorem qread_any (s : ByteArray) (w : World) (hf : fineB s = true) (h0 : 0 < s.size) (h1 : s[0] ≠ 48) (hs : s.size ≤ 100000) :
    Calls Tryd.prog 51 #[.string s] w (NatPost2 w (nval s.data.toList)) := by
  obtain ⟨i0, hi, hz0, hz1, hz2⟩ := info_parts info_u32
  have hdig := digits_of_fine _ hf
  have hlen : s.data.toList.length = s.size := bytes_len s
  have HDG := Lib.hid hdig
  have HLEN := Lib.hid hlen
  have hat : ∀ k, (h : k < s.size) → 48 ≤ (s[k]).toNat ∧ (s[k]).toNat ≤ 57 := fun k h => by
    have := hdig (s.data.toList[k]'(by rw [hlen]; exact h)) (List.getElem_mem _)
    exact this
  have HAT := Lib.hid hat
  have hne : s.toList.isEmpty = false := str_ne s h0
  have c1 : (((s[0]).toNat : Int) == 48) = false := byte_ne' _ h1
  have h0I : (0 : Int) < (s.size : Int) := by omega
  clear hdig hlen hf h1 hat
  go_enter Tryd.func51, Tryd.ntmps51
  go_wp2_with fail
  go_loop [24] (fun v => ∃ k : Nat, k ≤ s.size ∧ v = .int .i64 k) (fun v => s.size - (RowKit.intOf v).toNat)
  case atStart => exact ⟨0, Nat.zero_le _, rfl⟩
  case round =>
    obtain ⟨k, hk, rfl⟩ := hrel
    by_cases hlt : k < s.size
    · obtain ⟨d1, d2⟩ := HAT.out k hlt
      have d3 : ¬ ((s[k]).toNat : Int) < 48 := by omega
      have d4 : ¬ (57 : Int) < ((s[k]).toNat : Int) := by omega
      clear d1 d2
      go_wp2_with fail
      go_round
      case rel => exact ⟨k + 1, hlt, by go_num⟩
      case measure => simp [RowKit.intOf]; omega
    · obtain rfl : k = s.size := by omega
      clear hlt c1 hne
      go_wp2_with fail
      generalize hl : s.data.toList = l at *
      go_loopw [5, 6] (fun v5 v6 wr => RdRel w l v5 v6 wr) (fun _ v6 _ => s.size - (RowKit.intOf v6).toNat)
      case atStart => exact ⟨0, 0, Nat.zero_le _, Nat.le_refl _, rfl, ⟨by simp [vals, digs], .inl ⟨rfl, rfl⟩⟩, (show 0 < 1 by decide), Below.refl _ _⟩
      case round =>
        obtain ⟨i, m, hil, hmi, rfl, hown, hlt2, hbel⟩ := hrel
        have HO := Lib.hid hown
        have HLT := Lib.hid hlt2
        have HB := Lib.hid hbel
        clear hown hlt2 hbel
        rw [HLEN.out] at hil
        by_cases hend : i = s.size
        · subst hend
          rw [← HLEN.out, List.take_length] at HO HLT
          obtain ⟨A, c, rfl, hmc, hcm, hml, hrd⟩ := own_rd HO.out
          unfold maxLen at hcm
          have HN := Lib.hid (pnorm_any A m c _ wr (digs_len _ _ _) ⟨hrd, digs_limb _ _⟩ hmc (by omega) (by omega))
          rw [lval_digs _ _ HLT.out] at HN
          clear hml hrd
          go_wp2_with fail
          refine HN.out.mono ?_
          rintro e w2 ⟨A2, c2, rfl, hc2, hl2, hm2, hb2⟩
          have C2 := Lib.hid (CanC.mk hc2 hl2 hm2)
          have B2 := Lib.hid (HB.out.trans (hb2.mono HB.out.size))
          clear hc2 hl2 hm2 hb2
          go_wp2_with fail
          go_ret2
          exact ⟨A2, c2, rfl, C2.out.can, C2.out.le, C2.out.max, B2.out⟩
        · have hiI : (i : Int) < (s.size : Int) := by omega
          obtain ⟨wo, rfl⟩ : ∃ wo : World, wo = wr := ⟨_, rfl⟩
          obtain ⟨A, c, rfl, hmc, hcm, -, -⟩ := own_rd HO.out
          unfold maxLen at hcm
          go_upto_block 4 with fail
          go_cut [6, 7, 8] (fun v6 v7 v8 wx => RdMid l i wo v6 v7 v8 wx)
          case first =>
            go_wp2_with fail
            go_loop [6, 7, 8] (fun v6 v7 v8 => RdIn l i v6 v7 v8) (fun v6 _ _ => s.size - (RowKit.intOf v6).toNat)
            case atStart => exact ⟨0, by omega, by rw [HLEN.out]; omega, rfl, rfl, rfl⟩
            case round =>
              obtain ⟨k, hk9, hkl, rfl, rfl, rfl⟩ := hrel
              rw [HLEN.out] at hkl
              by_cases hk : k = 9
              · subst hk
                by_cases hks : i + 9 < s.size
                · have hksI : (i : Int) + 9 < (s.size : Int) := by omega
                  go_wp2_with fail
                  go_meet
                  case rel => exact ⟨9, by omega, by omega, by rw [HLEN.out]; omega, rfl, rfl, rfl, rfl⟩
                · have hksI : ¬ (i : Int) + 9 < (s.size : Int) := by omega
                  go_wp2_with fail
                  go_meet
                  case rel => exact ⟨9, by omega, by omega, by rw [HLEN.out]; omega, rfl, rfl, rfl, rfl⟩
              · by_cases hks : i + k < s.size
                · obtain ⟨d1, d2⟩ := HAT.out (i + k) hks
                  have hksI : (i : Int) + k < (s.size : Int) := by omega
                  have hks0 : (0 : Int) ≤ (i : Int) + k := by omega
                  have hdl : i + k < l.length := by rw [HLEN.out]; exact hks
                  have hgk : (l.drop i)[k]'(by rw [List.length_drop]; omega) = s[i + k] := by
                    rw [List.getElem_drop]
                    have := bytes_at s (i + k) hks
                    rw [← this]
                    congr 1
                    exact hl.symm
                  have hns := nval_take_succ (l.drop i) k (by rw [List.length_drop]; omega)
                  rw [hgk] at hns
                  have hnb := nval_lt ((l.drop i).take k) (fun x hx => HDG.out x (List.mem_of_mem_drop (List.mem_of_mem_take hx)))
                  rw [List.length_take, List.length_drop, Nat.min_eq_left (by omega)] at hnb
                  have ht8 : 10 ^ k ≤ 10 ^ 8 := Nat.pow_le_pow_right (by decide) (by omega)
                  have ht8' : 10 ^ k ≤ 100000000 := ht8
                  have hts := Nat.pow_succ (n := 10) (m := k)
                  have HTS := Lib.hid hts
                  have HNS := Lib.hid hns
                  clear ht8 hts hns hgk
                  generalize 10 ^ k = t at *
                  generalize nval ((l.drop i).take k) = nv at *
                  obtain ⟨ch, hch⟩ : ∃ ch : Nat, (s[i + k]).toNat = ch := ⟨_, rfl⟩
                  have HCH := Lib.hid hch
                  rw [hch] at d1 d2
                  have d3 : (ch : Int) - 48 < 10 := by omega
                  have d4 : (48 : Int) ≤ (ch : Int) := by omega
                  have htI : (t : Int) < 1000000000 := by omega
                  go_wp2_with fail
                  go_round
                  case rel => exact ⟨k + 1, by omega, by rw [HLEN.out]; omega, by congr 1, by rw [HNS.out, HCH.out]; congr 1; omega, by rw [HTS.out]; congr 1⟩
                  case measure => simp [RowKit.intOf]; omega
                · have hksI : ¬ (i : Int) + k < (s.size : Int) := by omega
                  go_wp2_with fail
                  go_meet
                  case rel => exact ⟨k, by omega, by omega, by rw [HLEN.out]; omega, rfl, rfl, rfl, rfl⟩
          case rest =>
            obtain ⟨k, hk1, hk9, hkl, rfl, rfl, rfl, rfl⟩ := hcut
            have hnb := nval_lt ((l.drop i).take k) (fun x hx => HDG.out x (List.mem_of_mem_drop (List.mem_of_mem_take hx)))
            rw [List.length_take, List.length_drop, Nat.min_eq_left (by omega)] at hnb
            have ht9 : 10 ^ k ≤ 1000000000 := (show 10 ^ k ≤ 10 ^ 9 from Nat.pow_le_pow_right (by decide) hk9)
            have HPARTS := Lib.hid (nval_parts l i k hkl)
            have hkl2 : i + k ≤ s.size := by rw [← HLEN.out]; exact hkl
            generalize 10 ^ k = t at *
            generalize nval ((l.drop i).take k) = nv at *
            generalize nval (l.take i) = O at *
            have hnw : IntKind.u64.wrap (nv : Int) = nv := IntWalk.u64_in _ (by omega)
            have htw : IntKind.u64.wrap (t : Int) = t := IntWalk.u64_in _ (by omega)
            clear hkl
            go_wp2_with fail
            go_loopw [9, 66] (fun v9 v66 wr => RdIn4 w O t nv m A c v9 v66 wr) (fun _ v66 _ => m - (RowKit.intOf v66).toNat)
            case atStart => exact ⟨0, Nat.zero_le _, rfl, by rw [acar_zero], by rw [mixD_congr (O * t + nv) O 0 m (Nat.zero_le _) ⟨O, O * t + nv, by rw [Nat.pow_zero, Nat.one_mul, Nat.one_mul, Nat.add_comm]⟩]; exact HO.out, HB.out⟩
            case round =>
              obtain ⟨j, hjm, rfl, rfl, hown, hbel⟩ := hrel
              have HO4 := Lib.hid hown
              have HB4 := Lib.hid hbel
              clear hown hbel
              have hac := acar_lt O t nv j hnb
              by_cases hj : j < m
              · obtain ⟨g, hAe, hgb⟩ := row_form HO4.out (by omega)
                subst hAe
                have hjI : (j : Int) < (m : Int) := by omega
                have hcell := HO4.out.cellAt j (by omega)
                rw [vals_get _ _ _ (by rw [mixD_len _ _ _ _ (by omega)]; omega), mixD_get _ _ _ _ (by omega)] at hcell
                have hfz := HO4.out.frozenAt j
                have hst := acar_step O t nv j
                have HST := Lib.hid hst
                have hxb : O / 4294967296 ^ j % 4294967296 < 4294967296 := Nat.mod_lt _ (by decide)
                have hsto : ∀ z : Nat, z = (O * t + nv) / 4294967296 ^ j % 4294967296 → (wr.setCell ⟨g, j, none⟩ (.int .u32 (z : Int))).ownsRow w.heap.size 49 1 (.slice (some ⟨g, 0, none⟩) m c) m (vals .u32 (mixD (O * t + nv) O (j + 1) m)) := fun z hz => by
                  have := (HO4.out.stored j (.int .u32 (z : Int))).1
                  rw [vals_set, hz, mixD_set0 _ _ _ _ (by omega)] at this
                  rw [hz]
                  exact this
                have HS2 := Lib.hid (hsto _ hst.1)
                have HC2 := Lib.hid hst.2
                clear hst hsto HST
                generalize O / 4294967296 ^ j % 4294967296 = x at *
                generalize acar O t nv j = cy at *
                have hzb : x * t ≤ 4294967295 * 1000000000 := Nat.mul_le_mul (by omega) ht9
                have hzI : (x : Int) * (t : Int) = ((x * t : Nat) : Int) := rfl
                generalize x * t = z at *
                have hzw : IntKind.u64.wrap (z : Int) = z := IntWalk.u64_in _ (by omega)
                have hxw : IntKind.u64.wrap (x : Int) = x := IntWalk.u64_in _ (by omega)
                have e1 : (((cy + z) % 4294967296 : Nat) : Int) = ((cy : Int) + z) % 4294967296 := by omega
                have E2 : Hid (((cy : Int) + z) / 4294967296 = ((acar O t nv (j + 1) : Nat) : Int)) := Lib.hid (by rw [← HC2.out]; omega)
                rw [e1] at HS2
                clear e1
                go_wp2_with fail
                go_roundw
                case rel => exact ⟨j + 1, by omega, by go_num, by rw [E2.out], HS2.out, HB4.out.setCell (p := ⟨g, j, none⟩) hgb _⟩
                case measure => simp [RowKit.intOf]; omega
              · obtain rfl : j = m := by omega
                have hF : (O * t + nv) / 4294967296 ^ j = acar O t nv j := by rw [acar_eq, Nat.div_eq_of_lt HLT.out, Nat.zero_mul, Nat.zero_add]
                have HF := Lib.hid hF
                rw [mixD_all] at HO4
                rw [← HPARTS.out] at HO4 HF
                have hmi2 : j + 1 ≤ i + k := by omega
                have hms : j + 1 ≤ 100001 := by omega
                clear hF HPARTS
                generalize acar O t nv j = cy at *
                by_cases hc0 : cy = 0
                · subst hc0
                  have hlt3 : Hid (nval (l.take (i + k)) < 4294967296 ^ j) := Lib.hid (by
                    rcases Nat.lt_or_ge (nval (l.take (i + k))) (4294967296 ^ j) with g | g
                    · exact g
                    · have := Nat.div_pos g (pow_posL j); have := HF.out; omega)
                  have hmxI : ¬ (262144 : Int) < (j : Int) := by omega
                  go_wp2_with fail
                  go_roundw
                  case rel => exact ⟨i + k, j, by rw [HLEN.out]; exact hkl2, by omega, rfl, HO4.out, hlt3.out, HB4.out⟩
                  case measure => simp [RowKit.intOf]; omega
                · have hc0I : (0 : Int) < (cy : Int) := by omega
                  have hlt3 : Hid (nval (l.take (i + k)) < 4294967296 ^ (j + 1)) := Lib.hid (by
                    have h1 := Nat.div_add_mod (nval (l.take (i + k))) (4294967296 ^ j)
                    have h2 := Nat.mod_lt (nval (l.take (i + k))) (pow_posL j)
                    rw [HF.out] at h1
                    have h4 : 4294967296 ^ j * cy ≤ 4294967296 ^ j * 4294967295 := Nat.mul_le_mul_left _ (by omega)
                    rw [Nat.pow_succ]
                    omega)
                  have hcm2 : (cy : Int) % 4294967296 = cy := by omega
                  go_wp2_with (at_builtin; refine wpList_append_own _ rfl _ _ 47 rfl w.heap.size 49 i0 (.int .u32 0) 1 4 Tryd.underlying47 hi hz0 hz1 hz2 rfl (by decide) _ _ _ rfl (HO4.out.alloc _) ⟨wr.heap.size, 0, none⟩ 1 1 [.int .u32 (cy : Int)] rfl rfl ?c1 ?c2 ?c3 ?c4 ?c5 ?_)
                  case c1 => exact (cell_one_new _ _ _)
                  case c2 => exact one_oneCell rfl
                  case c3 => unfold maxLen; omega
                  case c4 => omega
                  case c5 => have := HB4.out.size; simp; omega
                  intro v2 w2 hown2 hg2 _
                  have HB2 := Lib.hid ((HB4.out.alloc HB4.out.size _).grown hg2 (by have := HB4.out.size; simp; omega) (fun q hq => (HO4.out.lt q hq).1))
                  have hown3 := ownL_succ (y := cy) hown2 (by rw [HF.out, Nat.mod_eq_of_lt (by omega)])
                  obtain ⟨A3, c3, rfl, -, -, -, -⟩ := own_rd hown3
                  have HO3 := Lib.hid hown3
                  have hmxI : ¬ (262144 : Int) < (j : Int) + 1 := by omega
                  clear hown2 hg2 hown3 hcm2
                  go_wp2_with fail
                  go_roundw
                  case rel => exact ⟨i + k, j + 1, by rw [HLEN.out]; exact hkl2, by omega, rfl, HO3.out, hlt3.out, HB2.out⟩
                  case measure => simp [RowKit.intOf]; omega
end Go.Proofs.YtgckfilmhnapeaaDoor
