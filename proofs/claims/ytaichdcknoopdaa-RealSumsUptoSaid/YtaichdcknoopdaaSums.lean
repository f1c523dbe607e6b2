/- Contract of cruciblelaw05.RealSums. -/
import Derived.Test.YtaichdcknoopdaaSums2
namespace Go.Proofs.Ytaichdcknoopdaa
open Go.RowKit

attribute [local go_sem] run_store_cplx

theorem PairsAt.below {w w' : World} {a : Option Addr} {ps : List (Nat × Nat)} (h : PairsAt w a ps) (hb : Below w.heap.size w w') : PairsAt w' a ps := fun i hi => by
  obtain ⟨b, off, rfl, h1, h2, h3⟩ := h i hi
  exact ⟨b, off, rfl, Nat.lt_of_lt_of_le h1 hb.size, (hb.cell (p := ⟨b, off + i * 2, none⟩) h1).trans h2, (hb.cell (p := ⟨b, off + i * 2 + 1, none⟩) h1).trans h3⟩
theorem info_pair : (Try.prog.info? 51).map (fun i => (i.zero, i.size, i.bytes)) = some (some (.agg #[.int .u64 0, .int .u64 0]), 2, 16) := by kernel_rfl

/-- a row of the call's own, cut at its end: it reads -/
theorem rd_cut {w : World} {base n : Nat} {e : TypeId} {g : Nat} {xs : List Value} {v : Value} (hn : xs.length = n) (h : w.ownsRow base e 1 (.slice (some ⟨g, 0, none⟩) (n + 1) (n + 1)) (n + 1) (xs ++ [v])) : Rd w (some ⟨g, 0, none⟩) xs ∧ w.cell? ⟨g, n, none⟩ = some v := by
  obtain ⟨A, c, he, _, _, hl, hr⟩ := own_rd h
  injection he with h1 h2 h3
  subst h1
  constructor
  · have := hr.take n
    rwa [List.take_left' hn] at this
  · obtain ⟨b, off, e1, e2⟩ := hr.at_ (i := n) (u := v) (by rw [List.getElem?_append_right (by omega), hn, Nat.sub_self]; rfl)
    injection e1 with e1
    injection e1 with e3 e4
    subst e3 e4
    rwa [Nat.zero_add] at e2

theorem own_belowB {w w' : World} {base size n cap k B g : Nat} {e : TypeId} {xs : List Value} (h : w.ownsRow base e size (.slice (some ⟨g, 0, none⟩) n cap) k xs) (hg : g < B) (hb : Below B w w') : w'.ownsRow base e size (.slice (some ⟨g, 0, none⟩) n cap) k xs := by
  refine ⟨h.1, ?_⟩
  rcases h.2 with ⟨h1, h2⟩ | ⟨g', cap', cur, he, h1, h2, h3⟩
  · exact .inl ⟨h1, h2⟩
  · injection he with e1 e2 e3
    injection e1 with e1
    injection e1 with e4 e5
    subst e4
    exact .inr ⟨g, cap', cur, by rw [e2, e3], h1, (hb.block g hg).trans h2, h3⟩
theorem own_far {w : World} {base size n : Nat} {e : TypeId} {v : Value} {xs : List Value} (h : w.ownsRow base e size v n xs) {p : Addr} (hp : p.block < base) (u : Value) : (w.setCell p u).ownsRow base e size v n xs := by
  refine ⟨h.1, ?_⟩
  rcases h.2 with ⟨h1, h2⟩ | ⟨g', cap', cur, he, h1, h2, h3⟩
  · exact .inl ⟨h1, h2⟩
  · exact .inr ⟨g', cap', cur, he, h1, (Below.heap_setCell w p u g' (by omega)).trans h2, h3⟩
theorem sums_n (w : World) (X L : Option Addr) (n c d : Nat) (ps : List (Nat × Nat)) (hn : ps.length = n) (hl : n ≤ 1048576) (hX : Rd w X (cvals ps)) (hL : PairsAt w L ps) (hbd : ∀ p ∈ ps, U64 p.1 ∧ U64 p.2) :
    Calls Try.prog 27 #[.slice X n c, .slice L n d] w fun e w' => e = .returned (.bool true) ∧ Below w.heap.size w w' := by
  subst hn
  exact sums_any w X L c d ps hl (fun wx hb => rd_cplx (hX.below hb)) hL hbd

def BackRel (w2 w4 : World) (g : Nat) (ps : List (Nat × Nat)) (v10 v11 : Value) (wr : World) : Prop :=
  ∃ k j : Nat, ps.length = k + j ∧ v11 = .int .i64 k ∧ wr.ownsRow w4.heap.size 51 2 v10 k (pcells (ps.reverse.take k)) ∧
    wr.ownsRow w2.heap.size 48 1 (.slice (some ⟨g, 0, none⟩) (ps.length + 1) (ps.length + 1)) (ps.length + 1) (mix ps k) ∧ Below w2.heap.size w2 wr ∧ w4.heap.size ≤ wr.heap.size

set_option maxRecDepth 100000 in
set_option maxHeartbeats 4000000 in
theorem rsums_small (w : World) (a b : Option Addr) (c d : Nat) (ps qs : List (Nat × Nat)) (hp : PairsAt w a ps) (hq : PairsAt w b qs) (hbp : ∀ p ∈ ps, U64 p.1 ∧ U64 p.2) (hbq : ∀ p ∈ qs, U64 p.1 ∧ U64 p.2) (hl : ps.length + qs.length ≤ 1048576) :
    Calls Try.prog 5 #[.slice a ps.length c, .slice b qs.length d] w fun e w' => e = .returned (.bool true) ∧ Below w.heap.size w w' := by
  have HP := Lib.hid hp
  have HQ := Lib.hid hq
  have BP := Lib.hid hbp
  have BQ := Lib.hid hbq
  clear hp hq hbp hbq
  have hl1 : ps.length ≤ 1048576 := by omega
  have hl2 : qs.length ≤ 1048576 := by omega
  have ws : IntKind.i64.wrap ((ps.length : Int) + qs.length) = (ps.length : Int) + qs.length := IntWalk.i64_in _ (by omega)
  have hs : (ps.length : Int) + qs.length ≤ 1048576 := by omega
  go_enter Try.func5, Try.ntmps5
  go_wp2_with fail
  go_loopw [5, 7] (fun v i wr => ListRel w ps v i wr) (fun _ i _ => ps.length - (intOf i).toNat)
  case atStart => exact ⟨0, Nat.zero_le _, rfl, ⟨by simp [cvals], .inl ⟨rfl, rfl⟩⟩, Below.refl _ _⟩
  case round =>
    obtain ⟨k, hk, rfl, hown, hbel⟩ := hrel
    have HOWN := Lib.hid hown
    have HBEL := Lib.hid hbel
    clear hown hbel
    by_cases hlt : k < ps.length
    · obtain ⟨b', off, rfl, hb, hc1, hc2⟩ := HP.out k hlt
      have c1 : wr.cell? ⟨b', off + k * 2, none⟩ = _ := (HBEL.out.cell hb).trans hc1
      have c2 : wr.cell? ⟨b', off + k * 2 + 1, none⟩ = _ := (HBEL.out.cell hb).trans hc2
      clear hc1 hc2 hb
      generalize hpk : ps.getD k (0, 0) = p at *
      have HX : Hid (cvals (ps.take (k + 1)) = cvals (ps.take k) ++ [.complex .f64 p.1 p.2]) := Lib.hid (cvals_succ ps k hlt p hpk)
      clear hpk
      go_wp2_with fail
      refine (number_any _ _ _).mono ?_; rintro e w1 ⟨rfl, hb1⟩
      obtain ⟨i0, hi, hz0, hz1, hz2⟩ := info_parts info_cplx
      have hown1 := (own_below HOWN.out hb1).alloc (.cells #[.complex .f64 p.1 p.2] 48)
      have hbel1 := HBEL.out.trans (hb1.mono HBEL.out.size)
      have HP1 := Lib.hid hown1
      have HB1 := Lib.hid hbel1
      clear hown1 hbel1
      go_wp2_with (at_builtin; refine wpList_append_own _ rfl _ _ 47 rfl w.heap.size 48 i0 (.complex .f64 0 0) 1 16 Try.underlying47 hi hz0 hz1 hz2 rfl (by decide) _ _ _ rfl HP1.out ⟨w1.heap.size, 0, none⟩ 1 1 [.complex .f64 p.1 p.2] rfl rfl ?c1 ?c2 ?c3 ?c4 ?c5 ?_)
      case c1 => exact (cell_one_new _ _ _)
      case c2 => exact one_oneCell rfl
      case c3 => unfold maxLen; omega
      case c4 => omega
      case c5 => have := HB1.out.size; simp; omega
      intro v2 w2 hown2 hg2 _
      have hbel2 := (HB1.out.alloc HB1.out.size (.cells #[.complex .f64 p.1 p.2] 48)).grown hg2 (by have := HB1.out.size; simp; omega) (fun q hq => (HP1.out.lt q hq).1)
      have HO2 := Lib.hid hown2
      have HB2 := Lib.hid hbel2
      clear hown2 hbel2 hg2
      go_wp2
      go_roundw
      case rel => exact ⟨k + 1, by omega, by go_num, by rw [HX.out]; exact HO2.out, HB2.out⟩
      case measure => simp [intOf]; omega
    · obtain rfl : k = ps.length := by omega
      rw [List.take_length] at HOWN
      obtain ⟨A, cA, rfl, hnc, hcm, hcl, hrd⟩ := own_rd HOWN.out
      have RD := Lib.hid hrd
      clear HOWN hrd hlt hk hcl hcm hnc
      obtain ⟨wo, rfl⟩ : ∃ wo : World, wo = wr := ⟨_, rfl⟩
      go_wp2_with fail
      go_loopw [6, 8] (fun v i wr => ListRel wo qs v i wr) (fun _ i _ => qs.length - (intOf i).toNat)
      case atStart => exact ⟨0, Nat.zero_le _, rfl, ⟨by simp [cvals], .inl ⟨rfl, rfl⟩⟩, Below.refl _ _⟩
      case round =>
        obtain ⟨k, hk, rfl, hown, hbel⟩ := hrel
        have HOWN := Lib.hid hown
        have HB2 := Lib.hid hbel
        clear hown hbel
        by_cases hlt : k < qs.length
        · obtain ⟨b', off, rfl, hb, hc1, hc2⟩ := (HQ.out.below HBEL.out) k hlt
          have c1 : wr.cell? ⟨b', off + k * 2, none⟩ = _ := (HB2.out.cell hb).trans hc1
          have c2 : wr.cell? ⟨b', off + k * 2 + 1, none⟩ = _ := (HB2.out.cell hb).trans hc2
          clear hc1 hc2 hb
          generalize hpk : qs.getD k (0, 0) = p at *
          have HX : Hid (cvals (qs.take (k + 1)) = cvals (qs.take k) ++ [.complex .f64 p.1 p.2]) := Lib.hid (cvals_succ qs k hlt p hpk)
          clear hpk
          go_wp2_with fail
          refine (number_any _ _ _).mono ?_; rintro e w1 ⟨rfl, hb1⟩
          obtain ⟨i0, hi, hz0, hz1, hz2⟩ := info_parts info_cplx
          have hown1 := (own_below HOWN.out hb1).alloc (.cells #[.complex .f64 p.1 p.2] 48)
          have hbel1 := HB2.out.trans (hb1.mono HB2.out.size)
          have HP1 := Lib.hid hown1
          have HB1 := Lib.hid hbel1
          clear hown1 hbel1
          go_wp2_with (at_builtin; refine wpList_append_own _ rfl _ _ 47 rfl wo.heap.size 48 i0 (.complex .f64 0 0) 1 16 Try.underlying47 hi hz0 hz1 hz2 rfl (by decide) _ _ _ rfl HP1.out ⟨w1.heap.size, 0, none⟩ 1 1 [.complex .f64 p.1 p.2] rfl rfl ?d1 ?d2 ?d3 ?d4 ?d5 ?_)
          case d1 => exact (cell_one_new _ _ _)
          case d2 => exact one_oneCell rfl
          case d3 => unfold maxLen; omega
          case d4 => omega
          case d5 => have := HB1.out.size; simp; omega
          intro v2 w2 hown2 hg2 _
          have hbel2 := (HB1.out.alloc HB1.out.size (.cells #[.complex .f64 p.1 p.2] 48)).grown hg2 (by have := HB1.out.size; simp; omega) (fun q hq => (HP1.out.lt q hq).1)
          have HO2 := Lib.hid hown2
          have HB2' := Lib.hid hbel2
          clear hown2 hbel2 hg2
          go_wp2
          go_roundw
          case rel => exact ⟨k + 1, by omega, by go_num, by rw [HX.out]; exact HO2.out, HB2'.out⟩
          case measure => simp [intOf]; omega
        · obtain rfl : k = qs.length := by omega
          rw [List.take_length] at HOWN
          obtain ⟨B, cB, rfl, hnc, hcm, hcl, hrd⟩ := own_rd HOWN.out
          obtain ⟨wq, rfl⟩ : ∃ wq : World, wq = wr := ⟨_, rfl⟩
          have RB := Lib.hid hrd
          have RA := Lib.hid (RD.out.below HB2.out)
          have HB : Hid (Below w.heap.size w wq) := Lib.hid (HBEL.out.trans (HB2.out.mono HBEL.out.size))
          have PA := Lib.hid (HP.out.below HB.out)
          have PB := Lib.hid (HQ.out.below HB.out)
          clear HOWN hrd hlt hk hcl hcm hnc RD HBEL HB2 HP HQ
          go_wp2_with fail
          refine (twin_any wq A ps.length cA ps rfl hl1 RA.out).mono ?_
          rintro e w3 ⟨g, rfl, hg, hown, hb3⟩
          have HO := Lib.hid hown
          have B3 := Lib.hid hb3
          have HG := Lib.hid hg
          have HG3 : Hid (g < w3.heap.size) := Lib.hid (hown.lt g rfl).2
          obtain ⟨rx, rm⟩ := rd_cut (cvals_len ps) hown
          have RX := Lib.hid rx
          have RM := Lib.hid rm
          clear hown hb3 hg rx rm
          go_wp2_with fail
          refine (sums_n w3 (some ⟨g, 0, none⟩) a ps.length (ps.length + 1) c ps rfl hl1 RX.out (PA.out.below B3.out) BP.out).mono ?_
          rintro e w4 ⟨rfl, hb⟩
          have B4 := Lib.hid hb
          clear hb
          go_wp2_with fail
          have RB4 := Lib.hid ((RB.out.below B3.out).below B4.out)
          have PB4 := Lib.hid ((PB.out.below B3.out).below B4.out)
          refine (sums_n w4 B b qs.length cB d qs rfl hl2 RB4.out PB4.out BQ.out).mono ?_
          rintro e w5 ⟨rfl, hb⟩
          have B5 : Hid (Below w3.heap.size w3 w5) := Lib.hid (B4.out.trans (hb.mono B4.out.size))
          clear hb RB4 PB4 B4
          go_wp2_with fail
          refine (sums_n w5 (some ⟨g, 0, none⟩) a ps.length (ps.length + 1) c ps rfl hl1 (RX.out.below B5.out) ((PA.out.below B3.out).below B5.out) BP.out).mono ?_
          rintro e w6 ⟨rfl, hb⟩
          have B6 : Hid (Below w3.heap.size w3 w6) := Lib.hid (B5.out.trans (hb.mono B5.out.size))
          clear hb B5
          go_wp2_with fail
          have RM6 := Lib.hid ((B6.out.cell (p := ⟨g, ps.length, none⟩) HG3.out).trans RM.out)
          have RA6 := Lib.hid ((RA.out.below B3.out).below B6.out)
          refine (left_any w6 g A ps.length cA ps rfl hl1 (RX.out.below B6.out) RM6.out RA6.out BP.out).mono ?_
          rintro e w7 ⟨rfl, q, hw7⟩
          have B7 : Hid (Below w3.heap.size w3 w7) := Lib.hid (hw7 ▸ below_drewN' B6.out q)
          have HO7 : Hid (w7.ownsRow wq.heap.size 48 1 (.slice (some ⟨g, 0, none⟩) (ps.length + 1) (ps.length + 1)) (ps.length + 1) (mix ps 0)) := Lib.hid (by rw [mix_zero]; exact own_below HO.out B7.out)
          have BQ7 : Hid (Below wq.heap.size wq w7) := Lib.hid (B3.out.trans (B7.out.mono B3.out.size))
          have HG7 : Hid (g < w7.heap.size) := Lib.hid (Nat.lt_of_lt_of_le HG3.out B7.out.size)
          clear hw7 B6 RM6 RA6 RM RX HO B3 B7 HG3 RB PB
          obtain ⟨i0, hi, hz0, hz1, hz2⟩ := info_parts info_pair
          go_wp2_with fail
          go_loopw [10, 11] (fun v10 v11 wr => BackRel wq w7 g ps v10 v11 wr) (fun _ v11 _ => ps.length - (intOf v11).toNat)
          case atStart => exact ⟨0, ps.length, by omega, rfl, ⟨by simp [pcells], .inl ⟨rfl, rfl⟩⟩, HO7.out, BQ7.out, Nat.le_refl _⟩
          case round =>
            obtain ⟨k, j, hkj, rfl, hown, hx, hbel, hsz⟩ := hrel
            have HO := Lib.hid hown
            have HX := Lib.hid hx
            have HBL := Lib.hid hbel
            have HSZ := Lib.hid hsz
            clear hown hx hbel hsz
            by_cases hlt : k < ps.length
            · obtain ⟨j, rfl⟩ : ∃ j', j = j' + 1 := ⟨j - 1, by omega⟩
              obtain ⟨b', off, rfl, hb, hc1, hc2⟩ := (PA.out.below HBL.out) j (by omega)
              have hpk := rev_get ps k j (by omega)
              have eq1 : (ps.map (·.1)).getD j 0 = (ps.getD j (0, 0)).1 := by simp [show j < ps.length by omega]
              have eq2 : (ps.map (·.2)).getD j 0 = (ps.getD j (0, 0)).2 := by simp [show j < ps.length by omega]
              obtain ⟨b2, off2, rfl, hc3⟩ := (RA.out.below HBL.out).at_ (cvals_get ps j (by omega))
              rw [eq1, eq2] at hc3
              clear eq1 eq2
              generalize ps.getD j (0, 0) = p at *
              have HS := Lib.hid (rev_snoc ps k hlt p hpk)
              have HMS := Lib.hid (mix_set ps k hlt p hpk)
              obtain ⟨x0, y0, hmg⟩ := mix_get ps k hlt
              have HMG := Lib.hid hmg
              have HC3 := Lib.hid hc3
              have HB2 : Hid (b2 < wr.heap.size) := Lib.hid (World.block_lt_of_cell? wr ⟨b2, off2 + j, none⟩ hc3)
              have HBX : Hid (b2 < wq.heap.size) := Lib.hid (by
                obtain ⟨b3, off3, e3, hc4⟩ := RA.out.at_ (cvals_get ps j (by omega))
                injection e3 with e3
                injection e3 with e4 e5
                subst e4
                exact World.block_lt_of_cell? wq ⟨b2, off3 + j, none⟩ hc4)
              clear hpk hmg hc3 hb
              have s1 : IntKind.i64.wrap ((ps.length : Int) - 1) = (ps.length : Int) - 1 := IntWalk.i64_in _ (by omega)
              have s2 : IntKind.i64.wrap ((ps.length : Int) - 1 - k) = (j : Int) := by rw [IntWalk.i64_in _ (by omega)]; omega
              have s3 : (ps.length : Int) - 1 - k = (j : Int) := by omega
              have s4 : (j : Int) < ps.length := by omega
              have s5 : (k : Int) < ps.length := by omega
              have HKJ := Lib.hid hkj
              clear hkj hlt
              have hown1 := HO.out.alloc (.cells #[.int .u64 p.1, .int .u64 p.2] 51)
              have HP1 := Lib.hid hown1
              clear hown1
              go_wp2_with (at_builtin; refine wpList_append_own _ rfl _ _ 46 rfl w7.heap.size 51 i0 (.agg #[.int .u64 0, .int .u64 0]) 2 16 Try.underlying46 hi hz0 hz1 hz2 rfl (by decide) _ _ _ rfl HP1.out ⟨wr.heap.size, 0, none⟩ 1 1 [.int .u64 p.1, .int .u64 p.2] rfl rfl ?e1 ?e2 ?e3 ?e4 ?e5 ?_)
              case e1 => intro i u hu; rcases i with _ | _ | i <;> simp at hu <;> subst hu <;> simp [Addr.add]
              case e2 => intro u hu; simp at hu; rcases hu with rfl | rfl <;> rfl
              case e3 => unfold maxLen; have := HKJ.out; omega
              case e4 => have := HKJ.out; omega
              case e5 => have := HSZ.out; simp; omega
              intro v8 w8 hown8 hg8 _
              have hbg : Below w7.heap.size wr w8 := ((Below.refl _ _).alloc HSZ.out _).grown hg8 (by have := HSZ.out; simp; omega) (fun q hq => (HP1.out.lt q hq).1)
              have BG := Lib.hid hbg
              have O8 : Hid (w8.ownsRow w7.heap.size 51 2 v8 (k + 1) (pcells (ps.reverse.take (k + 1)))) := Lib.hid (by rw [HS.out, pcells_snoc]; exact hown8)
              have BL8 : Hid (Below wq.heap.size wq w8) := Lib.hid (HBL.out.trans (BG.out.mono BQ7.out.size))
              have X8 := Lib.hid (own_belowB HX.out HG7.out BG.out)
              have c3 := (BG.out.cell (p := ⟨b2, off2 + j, none⟩) (Nat.lt_of_lt_of_le HBX.out BQ7.out.size)).trans HC3.out
              have hfz := X8.out.frozenAt k
              have c4 := X8.out.cellAt k (by omega)
              rw [HMG.out] at c4
              have hst := (X8.out.stored k (.complex .f64 p.1 p.2)).1
              rw [HMS.out] at hst
              have HST := Lib.hid hst
              have SZ8 : Hid (w7.heap.size ≤ w8.heap.size) := Lib.hid (Nat.le_trans HSZ.out BG.out.size)
              clear hown8 hg8 hbg hst hc1 hc2 HP1 HO HX HBL HSZ HS HMS HMG HC3 HB2 BG X8
              have s6 : (k : Int) < (ps.length : Int) + 1 := by omega
              go_wp2_with fail
              go_roundw
              case rel => exact ⟨k + 1, j, by have := HKJ.out; omega, by go_num, own_far O8.out (p := ⟨g, k, none⟩) HG7.out _, HST.out, BL8.out.setCell (p := ⟨g, k, none⟩) HG.out _, by simpa using SZ8.out⟩
              case measure => simp [intOf]; omega
            · obtain rfl : k = ps.length := by omega
              obtain rfl : j = 0 := by omega
              have e1 : ps.reverse.take ps.length = ps.reverse := List.take_of_length_le (by simp)
              rw [e1] at HO
              obtain ⟨C, cC, rfl, hpr⟩ := pairs_own (ps := ps.reverse) (by simp) HO.out
              have PR := Lib.hid hpr
              have hmx := HX.out
              rw [mix_end] at hmx
              obtain ⟨rx, -⟩ := rd_cut (xs := cvals ps.reverse) (by rw [cvals_len]; simp) hmx
              have RX := Lib.hid rx
              have HT := Lib.hid hlt
              clear e1 hpr hmx rx HO HX hkj hlt
              go_wp2_with fail
              refine (sums_n wr (some ⟨g, 0, none⟩) C ps.length (ps.length + 1) cC ps.reverse (by simp) hl1 RX.out PR.out (fun p hp => BP.out p (List.mem_reverse.1 hp))).mono ?_
              rintro e w9 ⟨rfl, hb⟩
              have HX9 : Hid (Below w.heap.size w wr) := Lib.hid (HB.out.trans (HBL.out.mono HB.out.size))
              have B9 : Hid (Below w.heap.size w w9) := Lib.hid (HX9.out.trans (hb.mono HX9.out.size))
              clear hb
              go_wp2_with fail
              refine (lives_below _).mono ?_
              rintro e w10 ⟨rfl, hb⟩
              have B10 : Hid (Below w.heap.size w w10) := Lib.hid (B9.out.trans (hb.mono B9.out.size))
              clear hb
              go_wp2_with fail
              go_ret
              exact ⟨rfl, B10.out⟩

theorem rsums_any (w : World) (a b : Option Addr) (c d : Nat) (ps qs : List (Nat × Nat)) (hp : PairsAt w a ps) (hq : PairsAt w b qs) (hbp : ∀ p ∈ ps, U64 p.1 ∧ U64 p.2) (hbq : ∀ p ∈ qs, U64 p.1 ∧ U64 p.2) (h1 : ps.length ≤ 140737488355328) (h2 : qs.length ≤ 140737488355328) :
    Calls Try.prog 5 #[.slice a ps.length c, .slice b qs.length d] w fun e w' => e = .returned (.bool true) ∧ Below w.heap.size w w' := by
  by_cases hl : ps.length + qs.length ≤ 1048576
  · exact rsums_small w a b c d ps qs hp hq hbp hbq hl
  · have ws : IntKind.i64.wrap ((ps.length : Int) + qs.length) = (ps.length : Int) + qs.length := IntWalk.i64_in _ (by omega)
    have hs : 1048576 < (ps.length : Int) + qs.length := by omega
    go_enter Try.func5, Try.ntmps5
    go_wp2_with fail
    go_ret
    exact ⟨rfl, Below.refl _ _⟩
end Go.Proofs.Ytaichdcknoopdaa
