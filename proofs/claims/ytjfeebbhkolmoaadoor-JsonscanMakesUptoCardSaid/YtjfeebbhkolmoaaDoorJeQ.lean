/- Chapter 10 of the program: Quote; its table of letters (for seat json). -/
import Derived.Test.YtjfeebbhkolmoaaDoorJeP
import Derived.WalkMore
import Derived.Deep.LoopGhost
import Derived.StillTailTactics
import Derived.Deep.CutBlock
import Derived.Deep.RegionHeld3
import Derived.Lib.LaidTab
namespace Go.Proofs.YtjfeebbhkolmoaaDoor.E
open Go.RowKit
set_option linter.unusedVariables false

section
open Go.RowKit
def shL (j : Nat) : Nat := [34, 92, 98, 116, 110, 102, 114, 47].getD j 0
def shM (j : Nat) : Nat := [34, 92, 8, 9, 10, 12, 13, 47].getD j 0
/-- the table of short strokes lies in memory -/
def Shorts (w : World) : Prop := 1 < w.heap.size ∧ ∀ j, j < 8 → w.cell? ⟨1, j * 2, none⟩ = some (.int .u8 (shL j)) ∧ w.cell? ⟨1, j * 2 + 1, none⟩ = some (.int .u8 (shM j))
theorem Shorts.below {w w' : World} (h : Shorts w) (hb : Below w.heap.size w w') : Shorts w' :=
  ⟨Nat.lt_of_lt_of_le h.1 hb.size, fun j hj => ⟨(hb.cell (p := ⟨1, j * 2, none⟩) h.1).trans (h.2 j hj).1, (hb.cell (p := ⟨1, j * 2 + 1, none⟩) h.1).trans (h.2 j hj).2⟩⟩
def PQRel (w : World) (s : ByteArray) (v4 v17 : Value) (wr : World) : Prop :=
  ∃ k : Nat, k ≤ s.size ∧ v17 = .int .i64 k ∧ wr.ownsRow w.heap.size 5 1 v4 (outB s k).length (vals .u8 (outB s k)) ∧ Below w.heap.size w wr
def InnRel (wo : World) (c : Nat) (v25 : Value) (wr : World) : Prop :=
  ∃ j : Nat, j ≤ 7 ∧ v25 = .int .i64 j ∧ (∀ t, t < j → shM t ≠ c) ∧ Below wo.heap.size wo wr
def six (X Y : Nat) : Array Value := #[.int .u8 92, .int .u8 117, .int .u8 48, .int .u8 48, .int .u8 X, .int .u8 Y]
theorem app6 {ops : Array Oper} {o : Oper} {a : Act} {K : Act → World → Prop} {Q : Exit → Act → World → Prop} {E : Prop} (w0 : World) (base n : Nat) (u : Value) (xs : List Value) (X Y : Nat) (hgd : o.guard = none)
    (ho : o.op = .call { callee := .builtin .append, args := #[.tmp 41, .tmp 48], argTypes := #[35, 35] }) (hs : a.eval (.tmp 41) = u) (hx : a.eval (.tmp 48) = .slice (some ⟨w0.heap.size, 0, none⟩) 6 6)
    (hown : w0.ownsRow base 5 1 u n xs) (hn : n + 6 ≤ 100000000) (hb : base ≤ w0.heap.size)
    (h : ∀ v' w', w'.ownsRow base 5 1 v' (n + 6) (xs ++ [.int .u8 92, .int .u8 117, .int .u8 48, .int .u8 48, .int .u8 X, .int .u8 Y]) → (w0.drew.alloc (.cells (six X Y) 5)).grownBy w' u.ownBlock → K (a.put o.dst v') w') :
    if Region.wanted o (yielded ops a.tmps) = true then Oper.wp Tryd.prog o a (w0.drew.alloc (.cells (six X Y) 5)) K Q else E := by
  obtain ⟨i0, hi, hz0, hz1, hz2⟩ := info_parts info_u8
  have hw : Region.wanted o (yielded ops a.tmps) = true := by simp [Region.wanted, hgd]
  rw [if_pos hw]
  exact wp_append_own _ (.tmp 41) (.tmp 48) 35 ho base 5 i0 (.int .u8 0) 1 1 Tryd.underlying35 hi hz0 hz1 hz2 rfl (by decide) u n xs hs ((World.ownsRow.drew hown).alloc _) ⟨w0.heap.size, 0, none⟩ 6 6 [.int .u8 92, .int .u8 117, .int .u8 48, .int .u8 48, .int .u8 X, .int .u8 Y] hx rfl
    (World.news_of_block (cs := six X Y) (t := 5) (fr := (0, 0)) (heap_alloc_new w0.drew _)) (by intro v hv; simp at hv; rcases hv with rfl | rfl | rfl | rfl | rfl | rfl <;> rfl) (by unfold maxLen; omega) (by omega) (by simp; omega) (fun v' w' h1 h2 _ => h v' w' h1 h2)
set_option maxRecDepth 100000 in
set_option maxHeartbeats 1500000 in
theorem quote_yes (s : ByteArray) (hs : s.size ≤ 1048576) (ht : isTextB s = true) (w : World) (hsh : Shorts w) :
    Calls Tryd.prog 25 #[.string s] w fun e w' => e = .returned (.tuple #[.string (litB s), .bool true]) ∧ Below w.heap.size w w' := by
  have HB0 := Lib.hid (bad_any s (by omega) w)
  have hbs : badAt s = s.size := by
    have := isText_bad s
    rw [ht] at this
    exact of_decide_eq_true this.symm
  rw [hbs] at HB0
  have SH := Lib.hid hsh
  obtain ⟨i0, hi, hz0, hz1, hz2⟩ := info_parts info_u8
  clear ht hbs hsh
  go_enter Tryd.func25, Tryd.ntmps25
  go_wp2_with fail
  go_step3
  go_wp2_with fail
  refine HB0.out.mono ?_
  rintro e w1 ⟨rfl, rfl⟩
  clear HB0
  go_wp2_with fail
  go_step3
  go_wp2_with fail
  go_loopg [4, 17] s.size (fun g v4 v17 wr => ∃ k : Nat, k + g = s.size ∧ v17 = .int .i64 k ∧ wr.ownsRow w.heap.size 5 1 v4 (outB s k).length (vals .u8 (outB s k)) ∧ Below w.heap.size w wr)
  case atStart => exact ⟨0, by omega, rfl, World.ownsRow_lit (base := w.heap.size) (e := 5) (size := 1) w #[.int .u8 34] 1 (Nat.le_refl _) (by decide) rfl, (Below.refl _ _).alloc (Nat.le_refl _) _⟩
  case round =>
    obtain ⟨vb, hvb⟩ : ∃ vb, vb = u4 := ⟨_, rfl⟩
    subst hvb
    obtain ⟨k, hkg, rfl, ho, hb⟩ := hrel
    have HO := Lib.hid ho
    have HB := Lib.hid hb
    clear ho hb
    have LL := Lib.hid (outB_len s k)
    have HSZ := Lib.hid hs
    obtain ⟨wo, rfl⟩ : ∃ wo : World, wo = wr := ⟨_, rfl⟩
    have SHO := Lib.hid (SH.out.below HB.out)
    cases gk with
    | zero =>
      obtain rfl : k = s.size := by omega
      have HLT : Hid (∀ x ∈ outB s s.size ++ [34], x < 256) := Lib.hid (by
        intro x hx
        rcases List.mem_append.1 hx with hx | hx
        · exact outB_lt s s.size (Nat.le_refl _) x hx
        · simp at hx; omega)
      have HP1 := Lib.hid (HO.out.alloc (.cells #[.int .u8 34] 5))
      have SZW := Lib.hid HB.out.size
      clear hkg
      go_wp2_with (at_builtin; refine wpList_append_own _ rfl _ _ 35 rfl w.heap.size 5 i0 (.int .u8 0) 1 1 Tryd.underlying35 hi hz0 hz1 hz2 rfl (by decide) _ _ _ rfl HP1.out ⟨wo.heap.size, 0, none⟩ 1 1 [.int .u8 34] rfl rfl ?z1 ?z2 ?z3 ?z4 ?z5 ?_)
      (try case z1 => exact World.news_of_block (cs := #[.int .u8 34]) (heap_alloc_new _ _))
      case z2 => first | rfl | (intro u hu; simp at hu; subst hu; rfl)
      case z3 => unfold maxLen; have := LL.out; have := HSZ.out; omega
      case z4 => have := LL.out; have := HSZ.out; omega
      case z5 => have := SZW.out; first | (simp; omega) | omega
      intro v2 w2 hown2 hg2 _
      have hb2 := (HB.out.alloc HB.out.size (.cells #[.int .u8 34] 5)).grown hg2 (by have := SZW.out; simp; omega) (fun q hq => (HO.out.lt q hq).1)
      obtain ⟨A2, k2, rfl, -, -, -, -⟩ := own_rd hown2
      have HCV := row_string (n := (outB s s.size).length + 1) HLT.out (by simp) (by rw [vals_append]; exact hown2) (by omega)
      have HL : Hid (strOf (outB s s.size ++ [34]) = litB s) := Lib.hid rfl
      have BZ := Lib.hid hb2
      clear hb2 hown2 hg2
      generalize strOf (outB s s.size ++ [34]) = Z at *
      go_wp2_with fail
      try rw [Exit.noGoto_ret]
      go_ret2
      exact ⟨by rw [HL.out] <;> rfl, BZ.out⟩
    | succ g =>
      have hlt : k < s.size := by omega
      have hc := bt_lt hlt
      have HE0 := Lib.hid (outB_succ s k)
      have HBT := Lib.hid (bt_in hlt)
      rw [bt_in hlt] at hc
      have k0 : 0 ≤ (k : Int) := by omega
      have k1 : (k : Int) < s.size := by omega
      have HKG := Lib.hid hkg
      clear hkg
      generalize hcc : s[k].toNat = c at *
      go_wp2_with fail
      go_loopg [4, 25] 7 (fun g2 v4 v25 wy => ∃ j : Nat, j + g2 = 7 ∧ v4 = vb ∧ v25 = .int .i64 j ∧ (∀ t, t < j → shM t ≠ c) ∧ Below wo.heap.size wo wy)
      case atStart => exact ⟨0, rfl, rfl, rfl, fun t ht => absurd ht (by omega), Below.refl _ _⟩
      case round =>
        obtain ⟨j, hj, rfl, rfl, hne, hb2⟩ := hrel
        have HNE := Lib.hid hne
        have HB2 := Lib.hid hb2
        clear hne hb2
        cases gk with
        | zero =>
          obtain rfl : j = 7 := by omega
          have BW : Hid (Below w.heap.size w wr) := Lib.hid (HB.out.trans (HB2.out.mono HB.out.size))
          have HOW := Lib.hid (own_below HO.out HB2.out)
          have n0 := HNE.out 0 (by omega)
          have n1 := HNE.out 1 (by omega)
          have n2 := HNE.out 2 (by omega)
          have n3 := HNE.out 3 (by omega)
          have n4 := HNE.out 4 (by omega)
          have n5 := HNE.out 5 (by omega)
          have n6 := HNE.out 6 (by omega)
          simp only [shM, List.getD_cons_zero, List.getD_cons_succ] at n0 n1 n2 n3 n4 n5 n6
          by_cases h32 : c < 32
          · have HE : Hid (outB s (k + 1) = outB s k ++ [92, 117, 48, 48, 48 + c / 16, hexd (c % 16)]) := Lib.hid (by rw [HE0.out, HBT.out]; unfold escB; rw [if_neg (by omega), if_neg (by omega), if_neg (by omega), if_neg (by omega), if_neg (by omega), if_neg (by omega), if_neg (by omega), if_pos h32])
            have h32' : (c : Int) < 32 := by omega
            clear n0 n1 n2 n3 n4 n5 n6
            have hx1 := hex_at (c % 16) (by omega)
            have hx2 := hex_at (c / 16) (by omega)
            have hxv : hexd (c / 16) = 48 + c / 16 := by unfold hexd; rw [if_pos (by omega)]
            rw [hxv, show (((c / 16 : Nat)) : Int) = (c : Int) / 16 from by omega] at hx2
            rw [show (((c % 16 : Nat)) : Int) = (c : Int) % 16 from by omega] at hx1
            obtain ⟨X, hX⟩ : ∃ X, X = 48 + c / 16 := ⟨_, rfl⟩
            rw [← hX] at HE hx2
            have b1 : bits .and .u8 (c : Int) 15 = (c : Int) % 16 := by
              have h := u8_and_nat c 15 hc (by omega)
              rw [show ((15 : Nat) : Int) = 15 from rfl] at h
              rw [h, show c &&& 15 = c % 16 from Nat.and_two_pow_sub_one_eq_mod c 4]
              omega
            have s0 : 0 ≤ (c : Int) := by omega
            have HP1 := Lib.hid (HOW.out.alloc (.cells #[.int .u8 92, .int .u8 117, .int .u8 48, .int .u8 48, .int .u8 X, .int .u8 (hexd (c % 16))] 5))
            generalize hexd (c % 16) = Y at *
            clear h32 hX hxv hc
            go_wp2_with fail
            have h6 : (outB s k).length + 6 ≤ 100000000 := by have := LL.out; have := HSZ.out; omega
            have hmax : (outB s k).length + 6 ≤ maxLen := by unfold maxLen; have := LL.out; have := HSZ.out; omega
            have hbytes : ((outB s k).length + 6) * 1 ≤ 140737488355328 := by have := LL.out; have := HSZ.out; omega
            have hbase : ∀ (q : Nat) (o : Obj), w.heap.size ≤ ((wr.drewN q).alloc o).heap.size := by intro q o; have := BW.out.size; simp; omega
            have HXB := Lib.hid (fun q (o : Obj) => (below_drewN' BW.out q).alloc BW.out.size o)
            go_region_held3 (fun _ => True)
              (trivial)
              (first
                | (refine app6 wr w.heap.size (outB s k).length _ _ X Y (by rfl) (by rfl) (by rfl) (by rfl) HOW.out h6 BW.out.size ?_; intro v4 w4 hown1 hgrow; have HO2 := Lib.hid hown1; have HB4 := Lib.hid ((HXB.out 1 _).grown hgrow (by have := BW.out.size; simp; omega) (fun q hq => (HOW.out.lt q hq).1)); clear hown1 hgrow))
            go_wp2_with fail
            all_goals
              go_roundg g
              case measure => omega
              case rel => exact ⟨k + 1, by have := HKG.out; omega, by go_num, by rw [HE.out, List.length_append, vals_append]; exact HO2.out, HB4.out⟩
          · have HE : Hid (outB s (k + 1) = outB s k ++ [c]) := Lib.hid (by rw [HE0.out, HBT.out]; unfold escB; rw [if_neg (by omega), if_neg (by omega), if_neg (by omega), if_neg (by omega), if_neg (by omega), if_neg (by omega), if_neg (by omega), if_neg h32])
            have h32' : 32 ≤ (c : Int) := by omega
            have HP1 := Lib.hid (HOW.out.alloc (.cells #[.int .u8 c] 5))
            have SZW := Lib.hid BW.out.size
            clear n0 n1 n2 n3 n4 n5 n6 h32
            go_wp2_with (at_builtin; refine wpList_append_own _ rfl _ _ 35 rfl w.heap.size 5 i0 (.int .u8 0) 1 1 Tryd.underlying35 hi hz0 hz1 hz2 rfl (by decide) _ _ _ rfl HP1.out ⟨wr.heap.size, 0, none⟩ 1 1 [.int .u8 c] rfl rfl ?d1 ?d2 ?d3 ?d4 ?d5 ?_)
            (try case d1 => exact World.news_of_block (cs := #[.int .u8 c]) (heap_alloc_new _ _))
            case d2 => first | rfl | (intro u hu; simp at hu; rcases hu with rfl | rfl | rfl | rfl | rfl | rfl <;> rfl) | (intro u hu; simp at hu; rcases hu with rfl | rfl <;> rfl) | (intro u hu; simp at hu; subst hu; rfl) | (intro u hu; simp at hu; repeat' (rcases hu with rfl | hu); all_goals (first | rfl | (subst hu; rfl)))
            case d3 => unfold maxLen; have := LL.out; have := HSZ.out; omega
            case d4 => have := LL.out; have := HSZ.out; omega
            case d5 => have := BW.out.size; first | (simp at *; omega) | omega
            intro v2 w2 hown2 hg2 _
            have hb3 := (BW.out.alloc BW.out.size (.cells #[.int .u8 c] 5)).grown hg2 (by have := SZW.out; simp; omega) (fun q hq => (HP1.out.lt q hq).1)
            have HB3 := Lib.hid hb3
            have HO2 : Hid (w2.ownsRow w.heap.size 5 1 v2 (outB s (k + 1)).length (vals .u8 (outB s (k + 1)))) := Lib.hid (by rw [HE.out, List.length_append, vals_append]; exact hown2)
            clear hb3 hown2 hg2
            go_wp2_with fail
            go_roundg g
            case measure => omega
            case rel => exact ⟨k + 1, by have := HKG.out; omega, by go_num, HO2.out, HB3.out⟩
        | succ g2 =>
          obtain ⟨d1, d2⟩ := (SHO.out.below HB2.out).2 j (by omega)
          have HJ := Lib.hid hj
          have j1 : (j : Int) < 7 := by omega
          have j0 : 0 ≤ (j : Int) := by omega
          clear hj
          have HMJ := Lib.hid (show ∀ j, j < 7 → escB (shM j) = [92, shL j] by decide)
          by_cases hm : shM j = c
          · have e1 : (((shM j : Nat) : Int) == (c : Int)) = true := by rw [beq_iff_eq, hm]
            have HE : Hid (outB s (k + 1) = outB s k ++ [92, shL j]) := Lib.hid (by rw [HE0.out, HBT.out, ← hm, HMJ.out j (by have := HJ.out; omega)])
            have BW : Hid (Below w.heap.size w wr) := Lib.hid (HB.out.trans (HB2.out.mono HB.out.size))
            have BA := Lib.hid ((BW.out.alloc BW.out.size (.cells #[.int .u8 (shL j), .int .u8 (shM j)] 84)).alloc (by have := BW.out.size; simp; omega) (.cells #[.int .u8 92, .int .u8 (shL j)] 5))
            have HP1 := Lib.hid (((own_below HO.out HB2.out).alloc (.cells #[.int .u8 (shL j), .int .u8 (shM j)] 84)).alloc (.cells #[.int .u8 92, .int .u8 (shL j)] 5))
            have SZW := Lib.hid BW.out.size
            clear hm
            generalize shL j = l at *
            generalize shM j = mm at *
            go_upto_region 12 with fail
            go_wp2_with (at_builtin; refine wpList_append_own _ rfl _ _ 35 rfl w.heap.size 5 i0 (.int .u8 0) 1 1 Tryd.underlying35 hi hz0 hz1 hz2 rfl (by decide) _ _ _ rfl HP1.out ⟨wr.heap.size + 1, 0, none⟩ 2 2 [.int .u8 92, .int .u8 l] rfl rfl ?e1 ?e2 ?e3 ?e4 ?e5 ?_)
            case e1 =>
              have hsz1 : (wr.alloc (.cells #[.int .u8 l, .int .u8 mm] 84)).heap.size = wr.heap.size + 1 := by simp
              rw [← hsz1]
              exact World.news_of_block (cs := #[.int .u8 92, .int .u8 l]) (heap_alloc_new _ _)
            (try case e2 => first | rfl | (intro u hu; simp at hu; rcases hu with rfl | rfl | rfl | rfl | rfl | rfl <;> rfl) | (intro u hu; simp at hu; rcases hu with rfl | rfl <;> rfl) | (intro u hu; simp at hu; subst hu; rfl) | (intro u hu; simp at hu; repeat' (rcases hu with rfl | hu); all_goals (first | rfl | (subst hu; rfl))))
            case e3 => unfold maxLen; have := LL.out; have := HSZ.out; omega
            case e4 => have := LL.out; have := HSZ.out; omega
            case e5 => have := BW.out.size; first | (simp at *; omega) | omega
            intro v2 w2 hown2 hg2 _
            have hb3 := BA.out.grown hg2 (by have := SZW.out; simp; omega) (fun q hq => (HP1.out.lt q hq).1)
            have HB3 := Lib.hid hb3
            have HO2 : Hid (w2.ownsRow w.heap.size 5 1 v2 (outB s (k + 1)).length (vals .u8 (outB s (k + 1)))) := Lib.hid (by rw [HE.out, List.length_append, vals_append]; exact hown2)
            clear hb3 hown2 hg2
            go_wp2_with fail
            go_roundg g
            case measure => omega
            case rel => exact ⟨k + 1, by have := HKG.out; omega, by go_num, HO2.out, HB3.out⟩
          · have e1 : (((shM j : Nat) : Int) == (c : Int)) = false := by rw [beq_eq_false_iff_ne]; omega
            have HM := Lib.hid hm
            have HB3 := Lib.hid (HB2.out.alloc HB2.out.size (.cells #[.int .u8 (shL j), .int .u8 (shM j)] 84))
            clear hm
            go_wp2_with fail
            go_roundg g2
            case measure => omega
            case rel => exact ⟨j + 1, by have := HJ.out; omega, rfl, by go_num, fun t ht => by
              by_cases q : t < j
              · exact HNE.out t q
              · obtain rfl : t = j := by omega
                exact HM.out, HB3.out⟩
set_option maxRecDepth 100000 in
theorem quote_no (s : ByteArray) (hs : s.size ≤ 1048576) (ht : isTextB s = false) (w : World) :
    Calls Tryd.prog 25 #[.string s] w fun e w' => e = .returned (.tuple #[.string ⟨#[]⟩, .bool false]) ∧ Below w.heap.size w w' := by
  have HB0 := Lib.hid (bad_any s (by omega) w)
  have hbs : badAt s < s.size := by
    have h1 := isText_bad s
    rw [ht] at h1
    have h2 : ¬ badAt s = s.size := of_decide_eq_false h1.symm
    have h3 : badAt s ≤ s.size := bad_le (bt s) s.size (bt_outs s) s.size 0 (Nat.zero_le _)
    omega
  clear ht
  generalize badAt s = b at *
  have hb' : (b : Int) < s.size := by omega
  go_enter Tryd.func25, Tryd.ntmps25
  go_wp2_with fail
  go_step3
  go_wp2_with fail
  refine HB0.out.mono ?_
  rintro e w1 ⟨rfl, rfl⟩
  go_wp2_with fail
  try rw [Exit.noGoto_ret]
  go_ret2
  exact ⟨rfl, Below.refl _ _⟩
end
section
open Go.RowKit Go.ChangeShapes Go.WideShapes
theorem short_elem {H : Type} {enc : TypeId × Value → H} {w : World} {base : Nat} {sp : Nat → Bool} {held : Bool} {fuel : Nat} {cs : List Value} {a b : Int} {p : List MemPlace}
    (h : DataW.trod enc Tryd.prog w base sp held fuel 84 cs = some (.agg [.lit (.int .u8 a), .lit (.int .u8 b)], p)) : cs[0]? = some (.int .u8 a) ∧ cs[1]? = some (.int .u8 b) := by
  obtain ⟨y0, y1, n, hx, _, h0, h1⟩ := trod_struct2 Tryd.underlying84 h
  obtain ⟨z0, hc0, rfl, _⟩ := DataW.trod_int Tryd.underlying5 h0
  obtain ⟨z1, hc1, rfl, _⟩ := DataW.trod_int Tryd.underlying5 h1
  have e := (Prod.mk.inj hx).1
  simp only [DataW.agg.injEq, List.cons.injEq, DataW.lit.injEq, Lit.int.injEq, true_and, and_true] at e
  obtain ⟨rfl, rfl⟩ := e
  have c0 : Tryd.prog.cellsOf 5 = 1 := by kernel_rfl
  constructor
  · have := congrArg (·[0]?) hc0
    simpa [List.getElem?_take, List.getElem?_drop, c0] using this
  · have := congrArg (·[0]?) hc1
    simpa [List.getElem?_take, List.getElem?_drop, c0] using this
def shD {H : Type} (j : Nat) : DataW H := .agg [.lit (.int .u8 (shL j)), .lit (.int .u8 (shM j))]
theorem shorts_cells {H : Type} {enc : TypeId × Value → H} {w : World} {base : Nat} {sp : Nat → Bool} {held : Bool} {fuel : Nat} {cs : List Value} {p : List MemPlace}
    (h : DataW.trod enc Tryd.prog w base sp held fuel 85 cs = some (.agg ((List.range 8).map shD), p)) (j : Nat) (hj : j < 8) : cs[j * 2]? = some (.int .u8 (shL j)) ∧ cs[j * 2 + 1]? = some (.int .u8 (shM j)) := by
  have hce : Tryd.prog.cellsOf 84 = 2 := by kernel_rfl
  have hct : Tryd.prog.cellsOf 85 = 16 := by kernel_rfl
  cases fuel with
  | zero => simp [DataW.trod] at h
  | succ fuel =>
    simp only [DataW.trod, Tryd.underlying85, hce, hct] at h
    split at h
    · obtain ⟨xs, hm, hx⟩ := Option.map_eq_some_iff.1 h
      have hxs : xs.map (·.1) = (List.range 8).map (shD (H := H)) := by
        have := congrArg Prod.fst hx
        simpa using this
      obtain ⟨b, hb, hf⟩ := Lib.mapM_at hm j j (by simp [hj])
      have h2 : (xs.map (·.1))[j]? = some b.1 := by simp [hb]
      rw [hxs] at h2
      have h3 : ((List.range 8).map (shD (H := H)))[j]? = some (shD j) := by simp [hj]
      rw [h3] at h2
      have h4 : b.1 = shD j := (Option.some.inj h2).symm
      obtain ⟨b1, b2⟩ := b
      simp only at h4
      subst h4
      obtain ⟨k0, k1⟩ := short_elem hf
      constructor
      · simpa [List.getElem?_take, List.getElem?_drop] using k0
      · simpa [List.getElem?_take, List.getElem?_drop] using k1
    · cases h
theorem gShorts : Tryd.prog.globalNamed "crucible/escape.shorts" = some 1 := by kernel_rfl
theorem gShortsType : (Tryd.prog.globals[1]?).map (·.type) = some 85 := by kernel_rfl
theorem laid_eq {H : Type} : (Rows.laid_crucible_escape_shorts : DataW H) = .agg ((List.range 8).map shD) := rfl
theorem shorts_of_laid {W : World} {rest : List (String × DataW Unit)} (h : laidMet Tryd.prog (("crucible/escape.shorts", Rows.laid_crucible_escape_shorts) :: rest) W) : Shorts W := by
  obtain ⟨ps, ⟨g', t', cs, fuel, p, q, hg', ht', hvar, hd, _, _⟩, _⟩ := h
  obtain rfl := Option.some.inj (gShorts.symm.trans hg')
  obtain rfl := Option.some.inj (gShortsType.symm.trans ht')
  rw [laid_eq] at hd
  have key : ∀ j, j < 8 → W.cell? ⟨1, j * 2, none⟩ = some (.int .u8 (shL j)) ∧ W.cell? ⟨1, j * 2 + 1, none⟩ = some (.int .u8 (shM j)) := by
    intro j hj
    obtain ⟨k0, k1⟩ := shorts_cells hd j hj
    have v0 := World.var?_cell gShorts hvar (j * 2)
    have v1 := World.var?_cell gShorts hvar (j * 2 + 1)
    exact ⟨by rw [v0]; simpa using k0, by rw [v1]; simpa using k1⟩
  exact ⟨World.block_lt_of_cell? W ⟨1, 0, none⟩ (key 0 (by decide)).1, key⟩
end
end Go.Proofs.YtjfeebbhkolmoaaDoor.E
