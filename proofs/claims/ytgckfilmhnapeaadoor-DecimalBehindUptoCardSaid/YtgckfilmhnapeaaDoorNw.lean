/- The law DecimalNearest: the plain part and the walk. -/
import Derived.Test.YtgckfilmhnapeaaDoorNs
import Derived.Test.YtgckfilmhnapeaaDoorLv
import Derived.Test.YtgckfilmhnapeaaDoorTl
import Derived.Test.YtgckfilmhnapeaaDoorDrA
import Derived.Test.YtgckfilmhnapeaaDoorStrB
import Derived.Deep.DeepCutAuto
namespace Go.Proofs.YtgckfilmhnapeaaDoor
open Go.RowKit Go.Lib Go.ChangeShapes
set_option linter.unusedVariables false

/-- the digits that the law makes of bytes -/
def dgz (zs : List Nat) (i : Nat) : List Nat := (zs.take i).map (fun z => 48 + z % 10)
theorem dgz_length (zs : List Nat) (i : Nat) (h : i ≤ zs.length) : (dgz zs i).length = i := by unfold dgz; rw [List.length_map, List.length_take]; omega
theorem dgz_succ (zs : List Nat) (i : Nat) (h : i < zs.length) : dgz zs (i + 1) = dgz zs i ++ [48 + zs.getD i 0 % 10] := by
  unfold dgz
  rw [List.take_succ_eq_append_getElem h, List.map_append]
  simp [List.getD, h]
theorem dgz_mem (zs : List Nat) (i : Nat) : ∀ x ∈ dgz zs i, 48 ≤ x ∧ x ≤ 57 := by
  intro x hx
  obtain ⟨z, -, rfl⟩ := List.mem_map.1 hx
  omega
theorem strOf_fine (L : List Nat) (h : ∀ x ∈ L, 48 ≤ x ∧ x ≤ 57) : fineB (strOf L) = true := by
  unfold fineB fineL
  rw [List.all_eq_true]
  intro c hc
  unfold strOf at hc
  simp only at hc
  obtain ⟨x, hx, rfl⟩ := List.mem_map.1 (by simpa using hc)
  have h1 := h x hx
  have h2 := ofNat_small x (by omega)
  simp [dgB, h2, h1]
/-- the number of the first digits -/
def dv (L : List Nat) (k : Nat) : Nat := nval ((L.take k).map UInt8.ofNat)
theorem dv_zero (L : List Nat) : dv L 0 = 0 := rfl
theorem dv_full (L : List Nat) : dv L L.length = nval (strOf L).data.toList := by unfold dv strOf; simp
theorem dv_succ (L : List Nat) (k : Nat) (hk : k < L.length) (h : ∀ x ∈ L, 48 ≤ x ∧ x ≤ 57) : dv L (k + 1) = dv L k * 10 + (L.getD k 0 - 48) := by
  unfold dv
  rw [List.take_succ_eq_append_getElem hk, List.map_append, List.map_singleton, nval_snoc]
  have h1 := h _ (List.getElem_mem hk)
  rw [ofNat_small _ (by omega)]
  simp [List.getD, hk]
theorem dv_lt (L : List Nat) (k : Nat) (hk : k ≤ L.length) (hl : L.length ≤ 60) (h : ∀ x ∈ L, 48 ≤ x ∧ x ≤ 57) : ll (dv L k) ≤ 80 := by
  have h1 : dv L k ≤ 10 ^ k := by
    have := nval_lt ((L.take k).map UInt8.ofNat) (fun c hc => by
      obtain ⟨x, hx, rfl⟩ := List.mem_map.1 hc
      have h1 := h x (List.mem_of_mem_take hx)
      rw [ofNat_small _ (by omega)]
      exact h1)
    rw [List.length_map, List.length_take, Nat.min_eq_left hk] at this
    exact Nat.le_of_lt this
  have := (ten_ll _ k h1).1
  omega
theorem mul10 (A B : Option Addr) (c X : Nat) (wx : World) (h : CanC wx A c X) (g : Limbs wx B [10]) (hl : ll X ≤ 1000) : Calls Tryd.prog 22 #[.slice A (ll X) c, .slice B 1 1] wx (NatPost wx (X * 10)) := by
  have := pmul_any A B (ll X) 1 c 1 _ _ wx rfl rfl h.can.limbs g h.le (Nat.le_refl _) h.max (by decide) (by omega) (by decide)
  rwa [lval_dig, show lval [10] = 10 from rfl] at this
theorem add_y (A B : Option Addr) (c X y : Nat) (wx : World) (h : CanC wx A c X) (g : Limbs wx B [y]) (hl : ll X ≤ 1000) : Calls Tryd.prog 21 #[.slice A (ll X) c, .slice B 1 1] wx (NatPost wx (X + y)) := by
  have := padd_any A B (ll X) 1 c 1 _ _ wx rfl rfl h.can.limbs g (by omega) (by decide)
  rwa [lval_dig, show lval [y] = y by simp [lval, bval]] at this
theorem inf_52 : (2046 + 1) * 2 ^ 52 = 9218868437227405312 := by decide
theorem midM_ll (x : Nat) (hx : x < 9223372036854775808) : ll (midM x) ≤ 100 := by
  have hM : midM x < 2 ^ (32 * 2) := by unfold midM; split <;> omega
  have := ll_two _ 2 hM
  omega
theorem side_up (A B : Option Addr) (c d N sz : Nat) (P : Int) (w : World) (hT : Tabs w) (hA : CanC w A c N) (hB : CanC w B d (midM sz)) (hm : ll N ≤ 80) (hp1 : -419 ≤ P) (hp2 : P ≤ 419) (h : RdSpec 52 1074 2046 N P sz) (hlt : sz < 9218868437227405312) :
    Calls Tryd.prog 24 #[.slice A (ll N) c, .int .i64 P, .slice B (ll (midM sz)) d, .int .i64 ((midK sz : Int) - 1075)] w fun en w' => ∃ C : Int, en = .returned (.int .i64 C) ∧ (C = -1 ∨ C = 0 ∧ sz % 2 = 0) ∧ Below w.heap.size w w' := by
  have hk : midK sz ≤ 2047 := by unfold midK; omega
  refine (side_any A B c d N (midM sz) P _ w hT hA hB (by omega) (midM_ll sz (by omega)) (by omega) (by omega) (by omega) (by omega)).mono ?_
  rintro e w' ⟨rfl, hb⟩
  refine ⟨_, rfl, ?_, hb⟩
  rw [side_law N sz 1074 P _ rfl rfl]
  have h1 := h.hi (by rw [inf_52]; omega)
  have h2 := h.hi' (by rw [inf_52]; omega)
  generalize 2 * (N * 10 ^ P.toNat * 2 ^ 1074) = a at *
  generalize mid 52 sz * 10 ^ (-P).toNat = b at *
  unfold cmpZ
  by_cases g : a < b
  · rw [if_pos g]; exact .inl rfl
  · rw [if_neg g, if_neg (by omega)]
    refine .inr ⟨rfl, ?_⟩
    rcases Nat.mod_two_eq_zero_or_one sz with q | q
    · exact q
    · exact absurd (h2 q) g
theorem side_down (A B : Option Addr) (c d N sz : Nat) (P : Int) (w : World) (hT : Tabs w) (hA : CanC w A c N) (hB : CanC w B d (midM (sz - 1))) (hm : ll N ≤ 80) (hp1 : -419 ≤ P) (hp2 : P ≤ 419) (h : RdSpec 52 1074 2046 N P sz) (h0 : sz ≠ 0) (hle : sz ≤ 9218868437227405312) :
    Calls Tryd.prog 24 #[.slice A (ll N) c, .int .i64 P, .slice B (ll (midM (sz - 1))) d, .int .i64 ((midK (sz - 1) : Int) - 1075)] w fun en w' => ∃ C : Int, en = .returned (.int .i64 C) ∧ (C = 1 ∨ C = 0 ∧ sz % 2 = 0) ∧ Below w.heap.size w w' := by
  have hk : midK (sz - 1) ≤ 2047 := by unfold midK; omega
  refine (side_any A B c d N (midM (sz - 1)) P _ w hT hA hB (by omega) (midM_ll (sz - 1) (by omega)) (by omega) (by omega) (by omega) (by omega)).mono ?_
  rintro e w' ⟨rfl, hb⟩
  refine ⟨_, rfl, ?_, hb⟩
  rw [side_law N (sz - 1) 1074 P _ rfl rfl]
  have h1 := h.lo h0
  have h2 := h.lo' h0
  generalize 2 * (N * 10 ^ P.toNat * 2 ^ 1074) = a at *
  generalize mid 52 (sz - 1) * 10 ^ (-P).toNat = b at *
  unfold cmpZ
  rw [if_neg (by omega)]
  by_cases g : b < a
  · rw [if_pos g]; exact .inl rfl
  · rw [if_neg g]
    refine .inr ⟨rfl, ?_⟩
    rcases Nat.mod_two_eq_zero_or_one sz with q | q
    · exact q
    · exact absurd (h2 q) g
def NmRel (wd : World) (L : List Nat) (v10 v11 : Value) (wr : World) : Prop :=
  ∃ k A c, k ≤ L.length ∧ v11 = .int .i64 (k : Nat) ∧ v10 = .slice A (ll (dv L k)) c ∧ CanC wr A c (dv L k) ∧ Below wd.heap.size wd wr
def NwRel (w1 : World) (zs : List Nat) (v5 v6 : Value) (wr : World) : Prop :=
  ∃ i : Nat, i ≤ zs.length ∧ i ≤ 60 ∧ v6 = .int .i64 i ∧ wr.ownsRow w1.heap.size 5 1 v5 i (vals .u8 (dgz zs i)) ∧ Below w1.heap.size w1 wr ∧ (i = 0 → v5 = .slice none 0 0)
def NwOut (w1 : World) (zs : List Nat) (v5 : Value) (wr : World) : Prop :=
  ∃ i : Nat, i ≤ zs.length ∧ i ≤ 60 ∧ wr.ownsRow w1.heap.size 5 1 v5 i (vals .u8 (dgz zs i)) ∧ Below w1.heap.size w1 wr ∧ (i = 0 → v5 = .slice none 0 0)

set_option maxRecDepth 100000 in
set_option maxHeartbeats 4000000 in
theorem wnearest (A : Option Addr) (c : Nat) (zs : List Nat) (pw : Int) (hpw : (Lit.int .i16 pw).wf = true) (w : World) (hr : Rd w A (vals .u8 zs)) (hz : ∀ z ∈ zs, z < 256) (hb : zs.length ≤ 1048576)
    (hL : laidMetH Tryd.prog Rows.decimalNearestUptoRow.laid w) :
    Calls Tryd.prog 9 #[.slice A zs.length c, .int .i16 pw] w fun e w' => e = .returned (.bool true) ∧ Below w.heap.size w w' := by
  have hT : Tabs w := tabs_of_list hL
  have hmin : IntKind.i16.min = -32768 := rfl
  have hmax : IntKind.i16.max = 32767 := rfl
  simp only [Lit.wf, Bool.and_eq_true, decide_eq_true_eq, hmin, hmax] at hpw
  obtain ⟨i0, hi, hz0, hz1, hz2⟩ := info_parts info_u8
  have HLV := Lib.hid (lives7_any w hT)
  have HT := Lib.hid (fun wx (h : Below w.heap.size w wx) => hT.below h)
  have HR := Lib.hid (fun wx (h : Below w.heap.size w wx) => hr.below h)
  have HZ := Lib.hid hz
  clear hL hT hmin hmax hr hz
  go_enter Tryd.func9, Tryd.ntmps9
  go_wp2_with fail
  refine HLV.out.mono ?_
  rintro e w1 ⟨rfl, hb1⟩
  have HB1 := Lib.hid hb1
  clear hb1 HLV
  go_upto_block 0 with fail
  go_cut [5] (fun v5 wx => NwOut w1 zs v5 wx)
  case first =>
    go_wp2_with fail
    go_loopw [5, 6] (fun v5 v6 wr => NwRel w1 zs v5 v6 wr) (fun _ v6 _ => 60 - (RowKit.intOf v6).toNat)
    case atStart => exact ⟨0, Nat.zero_le _, Nat.zero_le _, rfl, ⟨rfl, .inl ⟨rfl, rfl⟩⟩, Below.refl _ _, fun _ => rfl⟩
    case round =>
      obtain ⟨i, hil, hi6, rfl, hown, hbel, hnil⟩ := hrel
      have HO := Lib.hid hown
      have HB := Lib.hid hbel
      have HN := Lib.hid hnil
      clear hown hbel hnil
      by_cases hlt : i < zs.length
      · by_cases h60 : i < 60
        · have h60I : (i : Int) < 60 := by omega
          have hltI : (i : Int) < (zs.length : Int) := by omega
          obtain ⟨A6, c6, rfl, h6c, h6m, -, -⟩ := own_rd HO.out
          obtain ⟨b, off, rfl, hcell⟩ := (HR.out wr (HB1.out.trans (HB.out.mono HB1.out.size))).val hlt
          have hz256 : zs.getD i 0 < 256 := HZ.out _ (by rw [List.getD_eq_getElem?_getD, List.getElem?_eq_getElem hlt]; exact List.getElem_mem hlt)
          have HDS := Lib.hid (dgz_succ zs i hlt)
          obtain ⟨z, hzz⟩ : ∃ z, zs.getD i 0 = z := ⟨_, rfl⟩
          rw [hzz] at hcell hz256 HDS
          have hmod : ((z : Nat) : Int).tmod 10 = ((z % 10 : Nat) : Int) := by rw [Int.tmod_eq_emod_of_nonneg (by omega)]; rfl
          have hy9 : z % 10 ≤ 9 := by omega
          obtain ⟨y, hy⟩ : ∃ y, z % 10 = y := ⟨_, rfl⟩
          rw [hy] at hmod hy9 HDS
          have y0 : (0 : Int) ≤ (y : Int) := by omega
          have y9 : (y : Int) ≤ 9 := by omega
          clear hzz hy hy9 hz256
          have hHO := HO.out.alloc (.cells #[.int .u8 (48 + (y : Int))] 5)
          have HHO := Lib.hid hHO
          clear hHO
          go_wp2_with (at_builtin; refine wpList_append_any _ rfl _ _ _ rfl w1.heap.size 5 i0 (.int .u8 0) 1 1 Tryd.underlying42 hi hz0 hz1 hz2 rfl (by omega) (.slice A6 i c6) i (vals .u8 (dgz zs i)) rfl HHO.out (wr.heap.size + 1) (some ⟨wr.heap.size, 0, none⟩) 1 1 [.int .u8 (48 + (y : Int))] rfl ?c1 ?c2 ?c3 ?c4 ?c5 ?_)
          case c1 => exact ⟨rfl, fun _ => ⟨_, rfl, by simp, cell_one_new _ _ _⟩⟩
          case c2 => exact one_oneCell rfl
          case c3 => unfold maxLen; omega
          case c4 => omega
          case c5 => have := HB.out.size; simp; omega
          intro v2 w5 hown2 hg2 hor
          have HB6 := Lib.hid ((HB.out.alloc HB.out.size _).grown hg2 (by have := HB.out.size; simp; omega) (fun q hq => (HO.out.lt q hq).1))
          have HO6 : Hid (w5.ownsRow w1.heap.size 5 1 v2 (i + 1) (vals .u8 (dgz zs (i + 1)))) := Lib.hid (by
            rw [HDS.out, vals_append, vals_one, show ((48 + y : Nat) : Int) = 48 + (y : Int) by omega]
            exact hown2)
          clear hown2 hg2 hor
          go_wp2_with fail
          go_roundw
          case rel => exact ⟨i + 1, by omega, by omega, by go_num, HO6.out, HB6.out, fun h => by omega⟩
          case measure => simp [RowKit.intOf]; omega
        · have h60I : ¬ (i : Int) < 60 := by omega
          have hltI : (i : Int) < (zs.length : Int) := by omega
          go_wp2_with fail
          go_meet
          case rel => exact ⟨i, hil, hi6, HO.out, HB.out, HN.out⟩
      · have hltI : ¬ (i : Int) < (zs.length : Int) := by omega
        go_wp2_with fail
        go_meet
        case rel => exact ⟨i, hil, hi6, HO.out, HB.out, HN.out⟩
  case rest =>
    obtain ⟨n, hnl, hn6, hown, hbel, hnil⟩ := hcut
    obtain ⟨A5, c5, rfl, h5c, h5m, -, hrd⟩ := own_rd hown
    have HBC := Lib.hid (HB1.out.trans (hbel.mono HB1.out.size))
    have hlen := dgz_length zs n hnl
    have hmem := dgz_mem zs n
    have hcv : (convert 42 9 (.slice A5 n c5)).run Tryd.prog wc = .ok (.string (strOf (dgz zs n))) wc := by
      by_cases h0 : n = 0
      · subst h0
        rw [hnil rfl]
        rfl
      · exact row_string (fun x hx => by have := hmem x hx; omega) hlen hown (by omega)
    generalize dgz zs n = L at *
    have hls : (strOf L).size = n := by rw [← bytes_len]; unfold strOf; simp [hlen]
    have hP1 : -419 ≤ pw.tmod 420 := by have := Int.lt_tmod_of_pos pw (show (0 : Int) < 420 by decide); omega
    have hP2 : pw.tmod 420 ≤ 419 := by have := Int.tmod_lt_of_pos pw (show (0 : Int) < 420 by decide); omega
    have hwp : IntKind.i64.wrap pw = pw := by simp only [IntKind.wrap]; simp [IntKind.signed, IntKind.bits]; omega
    have HF := Lib.hid (strOf_fine L hmem)
    have HRD := Lib.hid (dread_A false (strOf L) ((n : Int) + pw.tmod 420) wc (HT.out wc HBC.out) HF.out (by omega) (by omega) (by omega))
    have HLE : Hid ((n : Int) + pw.tmod 420 - (strOf L).data.toList.length = pw.tmod 420) := Lib.hid (by rw [bytes_len, hls]; omega)
    rw [HLE.out] at HRD
    obtain ⟨P, hPP⟩ : ∃ P, pw.tmod 420 = P := ⟨_, rfl⟩
    rw [hPP] at hP1 hP2 HRD
    have hn0 : (0 : Int) ≤ (n : Int) := by omega
    have hn60 : (n : Int) ≤ 60 := by omega
    have HRW := Lib.hid hrd
    have HMEM := Lib.hid hmem
    have HLEN := Lib.hid hlen
    clear hown hbel hnil hrd h5c h5m hls hmem hlen HLE HF hpw hnl hi hz0 hz1 hz2
    go_wp2_with fail
    refine HRD.out.mono ?_
    rintro e w2 ⟨sz, rfl, hspec, hb2⟩
    have HSP := Lib.hid hspec
    have HSZ := Lib.hid (show sz ≤ 9218868437227405312 by have := hspec.le; rw [inf_52] at this; exact this)
    have HB2 := Lib.hid (HBC.out.trans (hb2.mono HBC.out.size))
    have HRW2 := Lib.hid (HRW.out.below hb2)
    rw [show ((sgnN false sz 9223372036854775808 : Nat) : Int) = (sz : Int) from rfl]
    obtain ⟨zi, hzi⟩ : ∃ zi : Int, (sz : Int) = zi := ⟨_, rfl⟩
    have z0 : 0 ≤ zi := by omega
    have zle : zi ≤ 9218868437227405312 := by have := HSZ.out; omega
    have HZI := Lib.hid hzi
    rw [hzi]
    clear hzi hspec hb2 HRD HRW HBC hcv
    go_wp2_with fail
    go_loopw [10, 11] (fun v10 v11 wr => NmRel w2 L v10 v11 wr) (fun _ v11 _ => n - (RowKit.intOf v11).toNat)
    case atStart => exact ⟨0, none, 0, Nat.zero_le _, rfl, by rw [dv_zero, ll_zero'], ⟨by rw [dv_zero]; exact zeros_can _, by rw [dv_zero, ll_zero']; exact Nat.le_refl _, by decide⟩, Below.refl _ _⟩
    case round =>
      obtain ⟨k, A6, c6, hkl, rfl, rfl, hcan, hbel⟩ := hrel
      have C := Lib.hid hcan
      have B := Lib.hid hbel
      have hln := HLEN.out
      clear hcan hbel
      by_cases hlt : k < n
      · have hltI : (k : Int) < (n : Int) := by omega
        obtain ⟨b5, off5, rfl, hcell⟩ := (HRW2.out.below B.out).val (show k < L.length by omega)
        have hd := HMEM.out (L.getD k 0) (by rw [List.getD_eq_getElem?_getD, List.getElem?_eq_getElem (show k < L.length by omega)]; exact List.getElem_mem _)
        have hdv := dv_succ L k (by omega) HMEM.out
        have hll := dv_lt L k hkl (by omega) HMEM.out
        obtain ⟨y, hy⟩ : ∃ y, L.getD k 0 = 48 + y := ⟨L.getD k 0 - 48, by omega⟩
        rw [hy] at hcell hdv hd
        rw [Nat.add_sub_cancel_left] at hdv
        rw [show ((48 + y : Nat) : Int) = 48 + (y : Int) by omega] at hcell
        have y0 : (0 : Int) ≤ (y : Int) := by omega
        have y9 : (y : Int) ≤ 9 := by omega
        have hyl : LimbL [y] := by intro q hq; rw [List.mem_singleton.1 hq]; omega
        have wy : IntKind.u8.wrap (48 + (y : Int) - 48) = y := by simp only [IntKind.wrap]; simp [IntKind.signed, IntKind.bits]; omega
        have wy32 : IntKind.u32.wrap (y : Int) = y := by simp only [IntKind.wrap]; simp [IntKind.signed, IntKind.bits]; omega
        have HDV := Lib.hid hdv
        clear hy hdv hd
        generalize dv L k = X at *
        have al : ∀ (wx : World) (o : Obj), Below wx.heap.size wx (wx.alloc o) := fun wx o => (Below.refl _ _).alloc (Nat.le_refl _) _
        have hdr : Below wr.heap.size wr wr.drew := below_drewN' (Below.refl _ _) 1
        have hlt5 : b5 < wr.heap.size := World.block_lt_of_cell? wr _ hcell
        have KS : Hid (∀ wx, Below wr.heap.size wr wx → wx.cell? ⟨b5, off5 + k, none⟩ = some (.int .u8 (48 + (y : Int)))) := Lib.hid (fun wx h => (h.cell (p := ⟨b5, off5 + k, none⟩) hlt5).trans hcell)
        have W0 : Hid (∀ o, Below wr.heap.size wr (wr.alloc o).drew) := Lib.hid (fun o => below_drewN' (al wr o) 1)
        have W00 : Hid (∀ o o', Below wr.heap.size wr ((wr.alloc o).alloc o').drew) := Lib.hid (fun o o' => below_drewN' ((al wr o).trans ((al _ o').mono (al wr o).size)) 1)
        have AL := Lib.hid al
        have DL : ∀ (wx : World) D xs, Limbs wx D xs → Limbs wx.drew D xs := fun _ _ _ h => ⟨h.rd.drew, h.lt⟩
        have LN : Hid (∀ wx : World, Limbs (wx.alloc (.cells #[.int .u32 (y : Int)] 49)) (some ⟨wx.heap.size, 0, none⟩) [y]) := Lib.hid (fun wx => limbs_new wx [y] _ hyl)
        have LT : Hid (∀ wx : World, Limbs (wx.alloc (.cells #[.int .u32 10] 49)) (some ⟨wx.heap.size, 0, none⟩) [10]) := Lib.hid (fun wx => limbs_new wx [10] _ (by intro q hq; rw [List.mem_singleton.1 hq]; decide))
        have F1 : Hid (Limbs (wr.alloc (.cells #[.int .u32 10] 49)).drew (some ⟨wr.heap.size, 0, none⟩) [10]) := Lib.hid (DL _ _ _ (LT.out wr))
        have F2 : Hid (Limbs ((wr.alloc (.cells #[.int .u32 10] 49)).alloc (.cells #[.int .u32 (y : Int)] 49)).drew (some ⟨wr.heap.size, 0, none⟩) [10]) := Lib.hid (DL _ _ _ ((LT.out wr).below (al _ _)))
        have F2y : Hid (Limbs ((wr.alloc (.cells #[.int .u32 10] 49)).alloc (.cells #[.int .u32 (y : Int)] 49)).drew (some ⟨wr.heap.size + 1, 0, none⟩) [y]) := Lib.hid (DL _ _ _ (by
          have h := LN.out (wr.alloc (.cells #[.int .u32 10] 49))
          rw [show (wr.alloc (.cells #[.int .u32 10] 49)).heap.size = wr.heap.size + 1 by simp] at h
          exact h))
        have F3y : Hid (Limbs ((wr.alloc (.cells #[.int .u32 (y : Int)] 49)).alloc (.cells #[.int .u32 10] 49)).drew (some ⟨wr.heap.size, 0, none⟩) [y]) := Lib.hid (DL _ _ _ ((LN.out wr).below (al _ _)))
        have F3 : Hid (Limbs ((wr.alloc (.cells #[.int .u32 (y : Int)] 49)).alloc (.cells #[.int .u32 10] 49)).drew (some ⟨wr.heap.size + 1, 0, none⟩) [10]) := Lib.hid (DL _ _ _ (by
          have h := LT.out (wr.alloc (.cells #[.int .u32 (y : Int)] 49))
          rw [show (wr.alloc (.cells #[.int .u32 (y : Int)] 49)).heap.size = wr.heap.size + 1 by simp] at h
          exact h))
        have hl10 : ll (X * 10) ≤ 1000 := by
          have h1 := (ll_ten X 1 (by omega) (by decide)).2.1
          rw [Nat.pow_one] at h1
          omega
        have HMU := Lib.hid (fun (wx : World) D (h : Below wr.heap.size wr wx) (g : Limbs wx D [10]) => mul10 A6 D c6 X wx (C.out.below h) g (by omega))
        have HAD := Lib.hid (fun (wx : World) E q D (h : CanC wx E q (X * 10)) (g : Limbs wx D [y]) => add_y E D q (X * 10) y wx h g hl10)
        clear al hdr hlt5 hyl hl10 hll LT DL
        go_wp2_with fail
        go_region_held3 (fun w' => w'.cell? ⟨b5, off5 + k, none⟩ = some (.int .u8 (48 + (y : Int))))
          (first
            | exact hcell
            | exact KS.out _ (W0.out _)
            | exact KS.out _ (W00.out _ _)
            | exact KS.out _ B5.out
            | exact KS.out _ (B5A.out _)
            | exact KS.out _ B6.out)
          (first
            | (go_at_call 22; ((with_reducible refine (HMU.out _ _ (W0.out _) F1.out).mono ?_); rintro e w5 ⟨A7, c7, rfl, hca, hla, hma, hba⟩); have C5 := Lib.hid (CanC.mk hca hla hma); have B5 := Lib.hid ((W0.out _).trans (hba.mono (W0.out _).size)); have B5A := Lib.hid (fun o => B5.out.trans ((AL.out w5 o).mono B5.out.size)); have C5A := Lib.hid (fun o => C5.out.below (AL.out w5 o)); clear hca hla hma hba)
            | (go_at_call 22; ((with_reducible refine (HMU.out _ _ (W00.out _ _) F2.out).mono ?_); rintro e w5 ⟨A7, c7, rfl, hca, hla, hma, hba⟩); have C5 := Lib.hid (CanC.mk hca hla hma); have B5 := Lib.hid ((W00.out _ _).trans (hba.mono (W00.out _ _).size)); have LY5 := Lib.hid (F2y.out.below hba); clear hca hla hma hba)
            | (go_at_call 22; ((with_reducible refine (HMU.out _ _ (W00.out _ _) F3.out).mono ?_); rintro e w5 ⟨A7, c7, rfl, hca, hla, hma, hba⟩); have C5 := Lib.hid (CanC.mk hca hla hma); have B5 := Lib.hid ((W00.out _ _).trans (hba.mono (W00.out _ _).size)); have LY5 := Lib.hid (F3y.out.below hba); clear hca hla hma hba)
            | (go_at_call 21; ((with_reducible refine (HAD.out _ _ _ _ C5.out LY5.out).mono ?_); rintro e w6 ⟨A8, c8, rfl, hca, hla, hma, hba⟩); have C6 := Lib.hid (CanC.mk hca hla hma); have B6 := Lib.hid (B5.out.trans (hba.mono B5.out.size)); clear hca hla hma hba)
            | (go_at_call 21; ((with_reducible refine (HAD.out _ _ _ _ (C5A.out _) (LN.out w5)).mono ?_); rintro e w6 ⟨A8, c8, rfl, hca, hla, hma, hba⟩); have C6 := Lib.hid (CanC.mk hca hla hma); have B6 := Lib.hid ((B5A.out _).trans (hba.mono (B5A.out _).size)); clear hca hla hma hba))
        all_goals
          go_wp2_with fail
          go_roundw
          case rel => exact ⟨k + 1, A8, c8, by omega, by go_num, by rw [HDV.out], by rw [HDV.out]; exact C6.out, B.out.trans (B6.out.mono B.out.size)⟩
          case measure => simp [RowKit.intOf]; omega
      · obtain rfl : k = n := by omega
        have hN : nval (strOf L).data.toList = dv L k := by rw [← dv_full, hln]
        have hll := dv_lt L k hkl (by omega) HMEM.out
        have hsp := HSP.out
        have hsz := HSZ.out
        have hzi := HZI.out
        rw [hN] at hsp
        have HBw := Lib.hid (HB2.out.trans (B.out.mono HB2.out.size))
        have hmd1 := fun wx => middle_any sz (by omega) wx
        have hmd2 := fun wx => middle_any (sz - 1) (by omega) wx
        have hsd1 := fun (wx : World) (D : Option Addr) (q : Nat) (hlt : sz < 9218868437227405312) (h : Below w.heap.size w wx) (hA : CanC wx A6 c6 (dv L k)) (hB : CanC wx D q (midM sz)) => side_up A6 D c6 q (dv L k) sz P wx (HT.out wx h) hA hB hll hP1 hP2 hsp hlt
        have hsd2 := fun (wx : World) (D : Option Addr) (q : Nat) (h0 : sz ≠ 0) (h : Below w.heap.size w wx) (hA : CanC wx A6 c6 (dv L k)) (hB : CanC wx D q (midM (sz - 1))) => side_down A6 D c6 q (dv L k) sz P wx (HT.out wx h) hA hB hll hP1 hP2 hsp h0 hsz
        unfold MidPost at hmd1 hmd2
        rw [hzi] at hmd1
        have HMD2 : Hid (∀ wx, sz ≠ 0 → Calls Tryd.prog 23 #[.int .u64 (zi - 1)] wx fun e w' => ∃ A c, e = .returned (.tuple #[.slice A (ll (midM (sz - 1))) c, .int .i64 ((midK (sz - 1) : Int) - 1075)]) ∧ CanC w' A c (midM (sz - 1)) ∧ Below wx.heap.size wx w') := Lib.hid (fun wx h0 => by
          have h := hmd2 wx
          rw [show ((sz - 1 : Nat) : Int) = zi - 1 by omega] at h
          exact h)
        have HMD1 := Lib.hid hmd1
        have HSD1 := Lib.hid hsd1
        have HSD2 := Lib.hid hsd2
        clear hmd1 hmd2 hsd1 hsd2 hsp hsz hzi hN hll HSP HT HR HZ HRW2 HMEM hwp hPP
        generalize dv L k = N at *
        generalize midM sz = M1 at *
        generalize midM (sz - 1) = M2 at *
        generalize ((midK sz : Nat) : Int) - 1075 = e1 at *
        generalize ((midK (sz - 1) : Nat) : Int) - 1075 = e2 at *
        by_cases hinf : zi < 9218868437227405312
        · have hlt := HZI.out
          go_wp2_with fail
          refine (HMD1.out _).mono ?_
          rintro e wm ⟨B0, d0, rfl, hcm, hbm⟩
          have CM0 := Lib.hid hcm
          have CN1 := Lib.hid (C.out.below hbm)
          have HBm := Lib.hid (HBw.out.trans (hbm.mono HBw.out.size))
          clear hcm hbm
          go_wp2_with fail
          refine (HSD1.out _ _ _ (by omega) HBm.out CN1.out CM0.out).mono ?_
          rintro e wn ⟨C1, rfl, hC1, hbn⟩
          have HBn := Lib.hid (HBm.out.trans (hbn.mono HBm.out.size))
          have CN3 := Lib.hid (CN1.out.below hbn)
          clear hbn CN1 CM0 HMD1 HSD1 HBm hlt
          rcases hC1 with rfl | ⟨rfl, hev1⟩
          · by_cases hz : zi = 0
            · subst hz
              go_wp2_with fail
              go_ret
              exact ⟨rfl, HBn.out⟩
            · have hne : (zi == 0) = false := by rw [beq_eq_false_iff_ne]; exact hz
              go_wp2_with fail
              refine (HMD2.out _ (fun h0 => hz (by have := HZI.out; omega))).mono ?_
              rintro e wb ⟨B1, d1, rfl, hcb, hbb⟩
              have CM := Lib.hid hcb
              have CN2 := Lib.hid (CN3.out.below hbb)
              have HBb := Lib.hid (HBn.out.trans (hbb.mono HBn.out.size))
              clear hcb hbb
              go_wp2_with fail
              refine (HSD2.out _ _ _ (fun h0 => hz (by have := HZI.out; omega)) HBb.out CN2.out CM.out).mono ?_
              rintro e wd ⟨C2, rfl, hC2, hbd⟩
              have HBd := Lib.hid (HBb.out.trans (hbd.mono HBb.out.size))
              clear hbd
              rcases hC2 with rfl | ⟨rfl, hev⟩
              · go_wp2_with fail
                go_ret
                exact ⟨rfl, HBd.out⟩
              · have hzm : zi.tmod 2 = 0 := by have := HZI.out; rw [Int.tmod_eq_emod_of_nonneg z0]; omega
                go_wp2_with fail
                go_ret
                exact ⟨rfl, HBd.out⟩
          · have hzm1 : zi.tmod 2 = 0 := by have := HZI.out; rw [Int.tmod_eq_emod_of_nonneg z0]; omega
            by_cases hz : zi = 0
            · subst hz
              go_wp2_with fail
              go_ret
              exact ⟨rfl, HBn.out⟩
            · have hne : (zi == 0) = false := by rw [beq_eq_false_iff_ne]; exact hz
              go_wp2_with fail
              refine (HMD2.out _ (fun h0 => hz (by have := HZI.out; omega))).mono ?_
              rintro e wb ⟨B1, d1, rfl, hcb, hbb⟩
              have CM := Lib.hid hcb
              have CN2 := Lib.hid (CN3.out.below hbb)
              have HBb := Lib.hid (HBn.out.trans (hbb.mono HBn.out.size))
              clear hcb hbb
              go_wp2_with fail
              refine (HSD2.out _ _ _ (fun h0 => hz (by have := HZI.out; omega)) HBb.out CN2.out CM.out).mono ?_
              rintro e wd ⟨C2, rfl, hC2, hbd⟩
              have HBd := Lib.hid (HBb.out.trans (hbd.mono HBb.out.size))
              clear hbd
              rcases hC2 with rfl | ⟨rfl, hev⟩
              · go_wp2_with fail
                go_ret
                exact ⟨rfl, HBd.out⟩
              · have hzm : zi.tmod 2 = 0 := by have := HZI.out; rw [Int.tmod_eq_emod_of_nonneg z0]; omega
                go_wp2_with fail
                go_ret
                exact ⟨rfl, HBd.out⟩
        · have hz : zi ≠ 0 := by omega
          have hne : (zi == 0) = false := by rw [beq_eq_false_iff_ne]; exact hz
          go_wp2_with fail
          refine (HMD2.out _ (fun h0 => hz (by have := HZI.out; omega))).mono ?_
          rintro e wb ⟨B1, d1, rfl, hcb, hbb⟩
          have CM := Lib.hid hcb
          have CN2 := Lib.hid (C.out.below hbb)
          have HBb := Lib.hid (HBw.out.trans (hbb.mono HBw.out.size))
          clear hcb hbb
          go_wp2_with fail
          refine (HSD2.out _ _ _ (fun h0 => hz (by have := HZI.out; omega)) HBb.out CN2.out CM.out).mono ?_
          rintro e wd ⟨C2, rfl, hC2, hbd⟩
          have HBd := Lib.hid (HBb.out.trans (hbd.mono HBb.out.size))
          clear hbd
          rcases hC2 with rfl | ⟨rfl, hev⟩
          · go_wp2_with fail
            go_ret
            exact ⟨rfl, HBd.out⟩
          · have hzm : zi.tmod 2 = 0 := by have := HZI.out; rw [Int.tmod_eq_emod_of_nonneg z0]; omega
            go_wp2_with fail
            go_ret
            exact ⟨rfl, HBd.out⟩
end Go.Proofs.YtgckfilmhnapeaaDoor
