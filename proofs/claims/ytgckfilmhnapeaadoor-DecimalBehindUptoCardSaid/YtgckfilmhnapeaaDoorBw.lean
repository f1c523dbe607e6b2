/- The law DecimalBehind: the walk. -/
import Derived.Test.YtgckfilmhnapeaaDoorBe
import Derived.Test.YtgckfilmhnapeaaDoorNw
import Derived.Test.YtgckfilmhnapeaaDoorLv
import Derived.Test.YtgckfilmhnapeaaDoorTl
import Derived.Test.YtgckfilmhnapeaaDoorStrB
import Derived.Deep.DeepCutAuto
namespace Go.Proofs.YtgckfilmhnapeaaDoor
open Go.RowKit Go.Lib Go.ChangeShapes
set_option linter.unusedVariables false

/-- the digit that the law makes at a place -/
def bdg (fs : List Nat) (j : Nat) : Nat := if j < fs.length then 48 + fs.getD j 0 % 10 else 48
def btx (fs : List Nat) (i : Nat) : List Nat := (List.range 800).map (fun j => if j < i then bdg fs j else 0)
theorem btx_length (fs : List Nat) (i : Nat) : (btx fs i).length = 800 := by unfold btx; rw [List.length_map, List.length_range]
theorem btx_zero (fs : List Nat) : btx fs 0 = List.replicate 800 0 := by
  apply List.ext_getElem
  · rw [btx_length, List.length_replicate]
  · intro j h1 h2
    simp only [btx, List.getElem_map, List.getElem_range, List.getElem_replicate]
    rw [if_neg (Nat.not_lt_zero _)]
theorem btx_succ (fs : List Nat) (i : Nat) : (btx fs i).set i (bdg fs i) = btx fs (i + 1) := by
  apply List.ext_getElem
  · rw [List.length_set, btx_length, btx_length]
  · intro j h1 h2
    rw [List.getElem_set]
    by_cases h : i = j
    · subst h
      rw [if_pos rfl]
      simp only [btx, List.getElem_map, List.getElem_range]
      rw [if_pos (by omega)]
    · rw [if_neg h]
      simp only [btx, List.getElem_map, List.getElem_range]
      by_cases h3 : j < i
      · rw [if_pos h3, if_pos (by omega)]
      · rw [if_neg h3, if_neg (by omega)]
theorem bdg_range (fs : List Nat) (j : Nat) : 48 ≤ bdg fs j ∧ bdg fs j ≤ 57 := by unfold bdg; split <;> omega
/-- the 800 digits: the first one is none of 0 -/
def bhd (fs : List Nat) : List Nat := (btx fs 800).set 0 (if bdg fs 0 = 48 then 49 else bdg fs 0)
theorem btx_at (fs : List Nat) (i j : Nat) (h : j < 800) : (btx fs i).getD j 0 = if j < i then bdg fs j else 0 := by
  have hl : j < (btx fs i).length := by rw [btx_length]; exact h
  rw [List.getD_eq_getElem?_getD, List.getElem?_eq_getElem hl, Option.getD_some]
  simp only [btx, List.getElem_map, List.getElem_range]
theorem bhd_same (fs : List Nat) (h : bdg fs 0 ≠ 48) : bhd fs = btx fs 800 := by
  unfold bhd
  rw [if_neg h]
  apply List.ext_getElem
  · rw [List.length_set]
  · intro j h1 h2
    rw [List.getElem_set]
    by_cases e : 0 = j
    · subst e
      rw [if_pos rfl]
      simp only [btx, List.getElem_map, List.getElem_range]
      rw [if_pos (by omega)]
    · rw [if_neg e]
theorem bhd_facts (fs : List Nat) : (bhd fs).length = 800 ∧ (∀ x ∈ bhd fs, 48 ≤ x ∧ x ≤ 57) ∧ (∀ c r, bhd fs = c :: r → c ≠ 48) := by
  have hl : (bhd fs).length = 800 := by unfold bhd; rw [List.length_set, btx_length]
  have hat : ∀ j (h : j < (bhd fs).length), (bhd fs)[j] = if 0 = j then (if bdg fs 0 = 48 then 49 else bdg fs 0) else bdg fs j := by
    intro j h
    have h8 : j < 800 := by omega
    simp only [bhd, List.getElem_set]
    by_cases e : 0 = j
    · rw [if_pos e, if_pos e]
    · rw [if_neg e, if_neg e]
      simp only [btx, List.getElem_map, List.getElem_range]
      rw [if_pos h8]
  refine ⟨hl, fun x hx => ?_, fun c r h => ?_⟩
  · obtain ⟨j, hj, rfl⟩ := List.getElem_of_mem hx
    rw [hat j hj]
    have h1 := bdg_range fs 0
    have h2 := bdg_range fs j
    repeat' split
    all_goals omega
  · have h0 := hat 0 (by omega)
    have e : (bhd fs)[0]'(by omega) = c := by simp only [h]; rfl
    rw [e, if_pos rfl] at h0
    rw [h0]
    split
    · decide
    · assumption
/-- is there one among the first that is none of 0? -/
def anyD (ts : List Nat) (i : Nat) : Bool := (ts.take i).any (fun z => z % 10 != 0)
theorem anyD_succ (ts : List Nat) (i : Nat) (h : i < ts.length) : anyD ts (i + 1) = (anyD ts i || (ts.getD i 0 % 10 != 0)) := by
  unfold anyD
  rw [List.take_succ_eq_append_getElem h, List.any_append, List.any_cons, List.any_nil, Bool.or_false, List.getD_eq_getElem?_getD, List.getElem?_eq_getElem h, Option.getD_some]
theorem anyD_iff (ts : List Nat) (i : Nat) : anyD ts i = true ↔ ∃ c ∈ (dgz ts i).map UInt8.ofNat, c ≠ 48 := by
  unfold anyD dgz
  rw [List.any_eq_true]
  constructor
  · rintro ⟨z, hz, h⟩
    refine ⟨UInt8.ofNat (48 + z % 10), List.mem_map.2 ⟨48 + z % 10, List.mem_map.2 ⟨z, hz, rfl⟩, rfl⟩, fun e => ?_⟩
    have h2 := congrArg UInt8.toNat e
    rw [ofNat_small _ (by omega)] at h2
    have h3 : z % 10 ≠ 0 := by simpa using h
    have h4 : (48 : UInt8).toNat = 48 := rfl
    omega
  · rintro ⟨c, hc, hn⟩
    obtain ⟨x, hx, rfl⟩ := List.mem_map.1 hc
    obtain ⟨z, hz, rfl⟩ := List.mem_map.1 hx
    refine ⟨z, hz, ?_⟩
    have h3 : z % 10 ≠ 0 := fun e => hn (by rw [e]; rfl)
    simpa using h3
theorem DgC.grown {w w' : World} {b : Nat} {neg : Bool} {s : ByteArray} {p : Int} {row : Option Nat} (h : DgC w b neg s p) (hg : w.grownBy w' row) (hne : row ≠ some b) : DgC w' b neg s p := by
  have hb := hg.block b h.lt (fun e => hne e.symm)
  exact ⟨(World.cell?_of_block (a := ⟨b, 0, none⟩) hb).trans h.c0, (World.cell?_of_block (a := ⟨b, 1, none⟩) hb).trans h.c1, (World.cell?_of_block (a := ⟨b, 2, none⟩) hb).trans h.c2, Nat.lt_of_lt_of_le h.lt hg.size⟩
def BzRel (w1 : World) (gs : Nat) (neg : Bool) (p : Int) (T ts : List Nat) (v11 v14 v15 : Value) (wr : World) : Prop :=
  ∃ i : Nat, i ≤ ts.length ∧ i ≤ 1000 ∧ v15 = .int .i64 i ∧ v14 = .bool (anyD ts i) ∧ wr.ownsRow w1.heap.size 5 1 v11 (800 + i) (vals .u8 (T ++ dgz ts i)) ∧ Below w1.heap.size w1 wr ∧ Blk wr gs 23 #[.bool neg, .string (strOf T), .int .i64 p] ∧ v11.ownBlock ≠ some gs
def BzOut (w1 : World) (gs : Nat) (neg : Bool) (p : Int) (T ts : List Nat) (v11 v14 : Value) (wr : World) : Prop :=
  ∃ i : Nat, i ≤ ts.length ∧ i ≤ 1000 ∧ v14 = .bool (anyD ts i) ∧ wr.ownsRow w1.heap.size 5 1 v11 (800 + i) (vals .u8 (T ++ dgz ts i)) ∧ Below w1.heap.size w1 wr ∧ Blk wr gs 23 #[.bool neg, .string (strOf T), .int .i64 p] ∧ v11.ownBlock ≠ some gs
def BwRel (w1 : World) (g : Nat) (fs : List Nat) (v12 : Value) (wr : World) : Prop :=
  ∃ i : Nat, i ≤ 800 ∧ v12 = .int .i64 i ∧ wr.ownsRow w1.heap.size 5 1 (.slice (some ⟨g, 0, none⟩) 800 800) 800 (vals .u8 (btx fs i)) ∧ Below w1.heap.size w1 wr

theorem strOf_list (L : List Nat) : (strOf L).data.toList = L.map UInt8.ofNat := by unfold strOf; simp
theorem strOf_dig (L : List Nat) (h : ∀ x ∈ L, 48 ≤ x ∧ x ≤ 57) : digL (L.map UInt8.ofNat) := by
  intro c hc
  obtain ⟨x, hx, rfl⟩ := List.mem_map.1 hc
  have h1 := h x hx
  rw [ofNat_small _ (by omega)]
  exact h1
theorem strOf_len (L : List Nat) : (strOf L).size = L.length := by rw [← bytes_len, strOf_list, List.length_map]
theorem behind_all (u : Int) {neg : Bool} (T ts : List Nat) (i : Nat) (s : ByteArray) (p x y : Int) (hTl : T.length = 800) (hTd : ∀ x ∈ T, 48 ≤ x ∧ x ≤ 57) (hTf : ∀ c r, T = c :: r → c ≠ 48)
    (hs : s.data.toList = (strOf T).data.toList ++ (if anyD ts i = true then [49] else []))
    (h : LVal (wF u) (wL u) (wW u) (wS u) neg s p x) (k : LVal (wF u) (wL u) (wW u) (wS u) neg (strOf (T ++ dgz ts i)) p y) : fineB s = true ∧ fineB (strOf (T ++ dgz ts i)) = true ∧ x = y :=
  behind_read u (strOf T) s (strOf (T ++ dgz ts i)) ((dgz ts i).map UInt8.ofNat) p x y (anyD ts i) (by rw [strOf_list]; exact strOf_dig T hTd) (strOf_dig _ (dgz_mem ts i)) (by rw [strOf_len]; exact hTl)
    (fun c r e => by
      rw [strOf_list] at e
      cases T with
      | nil => simp at e
      | cons a q =>
        rw [List.map_cons] at e
        injection e with e1 e2
        have h1 := hTf a q rfl
        have h2 := hTd a (by simp)
        intro e3
        rw [← e1] at e3
        have h4 := congrArg UInt8.toNat e3
        rw [ofNat_small _ (by omega)] at h4
        exact h1 h4)
    (anyD_iff ts i) hs (by rw [strOf_list, strOf_list, List.map_append]) h k

set_option maxRecDepth 100000 in
set_option maxHeartbeats 4000000 in
theorem wbehind (u : Int) (hu : (Lit.int .u8 u).wf = true) (neg : Bool) (Af : Option Addr) (cf : Nat) (fs : List Nat) (At : Option Addr) (ct : Nat) (ts : List Nat) (p : Int) (hp : (Lit.int .i64 p).wf = true) (w : World)
    (hrf : Rd w Af (vals .u8 fs)) (hzf : ∀ z ∈ fs, z < 256) (hbf : fs.length ≤ 1048576) (hrt : Rd w At (vals .u8 ts)) (hzt : ∀ z ∈ ts, z < 256) (hbt : ts.length ≤ 1048576)
    (hL : laidMetH Tryd.prog Rows.decimalBehindUptoRow.laid w) :
    Calls Tryd.prog 8 #[.int .u8 u, .bool neg, .slice Af fs.length cf, .slice At ts.length ct, .int .i64 p] w fun e w' => e = .returned (.bool true) ∧ Below w.heap.size w w' := by
  have hT : Tabs w := tabs_of_list hL
  have hmin : IntKind.i64.min = -9223372036854775808 := rfl
  have hmax : IntKind.i64.max = 9223372036854775807 := rfl
  have hmin8 : IntKind.u8.min = 0 := rfl
  have hmax8 : IntKind.u8.max = 255 := rfl
  simp only [Lit.wf, Bool.and_eq_true, decide_eq_true_eq, hmin, hmax, hmin8, hmax8] at hu hp
  obtain ⟨i0, hi, hz0, hz1, hz2⟩ := info_parts info_u8
  have HLV := Lib.hid (lives7_any w hT)
  have HT := Lib.hid (fun wx (h : Below w.heap.size w wx) => hT.below h)
  have HRF := Lib.hid (fun wx (h : Below w.heap.size w wx) => hrf.below h)
  have HRT := Lib.hid (fun wx (h : Below w.heap.size w wx) => hrt.below h)
  have HZF := Lib.hid hzf
  have HZT := Lib.hid hzt
  have HU := Lib.hid hu
  have HP := Lib.hid hp
  clear hL hT hmin hmax hmin8 hmax8 hrf hrt hzf hzt hu hp
  go_enter Tryd.func8, Tryd.ntmps8
  go_wp2_with fail
  refine HLV.out.mono ?_
  rintro e w1 ⟨rfl, hb1⟩
  have HB1 := Lib.hid hb1
  clear hb1 HLV
  go_wp2_with (at_make; refine wpList_make_full _ rfl _ _ 42 rfl w1.heap.size 5 i0 (.int .u8 0) 1 Tryd.underlying42 hi hz0 hz1 _ _ _ _ 800 rfl rfl ?c0 ?c1 ?c2 ?c3 ?c4 ?_)
  (try (case c0 => omega))
  (try (case c1 => omega))
  (try (case c2 => first | (rw [hz2]; omega) | omega))
  (try (case c3 => first | (unfold maxLen; omega) | omega))
  (try (case c4 => exact Nat.le_refl _))
  intro w2 hown2 hg2
  rw [made_vals, ← btx_zero fs] at hown2
  have HO2 := Lib.hid hown2
  have HB2 : Hid (Below w1.heap.size w1 w2) := Lib.hid ((Below.refl _ _).grown hg2 (Nat.le_refl _) (fun _ h => by cases h))
  clear hown2 hg2
  obtain ⟨g, hg⟩ : ∃ g, w1.heap.size = g := ⟨_, rfl⟩
  have HG := Lib.hid hg
  rw [hg] at HO2 HB2 ⊢
  clear hg
  go_wp2_with fail
  go_loopw [12] (fun v12 wr => BwRel w1 g fs v12 wr) (fun v12 _ => 800 - (RowKit.intOf v12).toNat)
  case atStart => exact ⟨0, Nat.zero_le _, rfl, by rw [HG.out]; exact HO2.out, by rw [HG.out]; exact HB2.out⟩
  case round =>
    obtain ⟨i, hi8, rfl, hown, hbel⟩ := hrel
    have HO := Lib.hid hown
    have HB := Lib.hid hbel
    clear hown hbel
    by_cases hlt : i < 800
    · have hltI : (i : Int) < 800 := by omega
      have hcell := HO.out.cellAt i (by omega)
      have hfz := HO.out.frozenAt i
      rw [vals_get _ _ _ (by rw [btx_length]; exact hlt)] at hcell
      go_upto_region 8 with fail
      have HO3 : Hid ((wr.setCell ⟨g, i, none⟩ (.int .u8 48)).ownsRow w1.heap.size 5 1 (.slice (some ⟨g, 0, none⟩) 800 800) 800 (vals .u8 ((btx fs i).set i 48))) := Lib.hid (by
        have h := (HO.out.stored i (.int .u8 ((48 : Nat) : Int))).1
        rw [vals_set] at h
        exact h)
      have HB3 : Hid (Below w1.heap.size w1 (wr.setCell ⟨g, i, none⟩ (.int .u8 48))) := Lib.hid (HB.out.setCell (p := ⟨g, i, none⟩) (by rw [HG.out]; exact Nat.le_refl _) _)
      generalize wr.setCell ⟨g, i, none⟩ (.int .u8 48) = w3 at *
      have hfz3 := HO3.out.frozenAt i
      have hcell3 := HO3.out.cellAt i (by omega)
      rw [vals_get _ _ _ (by rw [List.length_set, btx_length]; exact hlt)] at hcell3
      have HSET := Lib.hid (btx_succ fs i)
      clear hcell hfz HO HB
      by_cases hf : i < fs.length
      · have hfI : (i : Int) < (fs.length : Int) := by omega
        obtain ⟨bf, off, rfl, hcf⟩ := (HRF.out w3 (HB1.out.trans (HB3.out.mono HB1.out.size))).val hf
        have hbd : bdg fs i = 48 + fs.getD i 0 % 10 := by unfold bdg; rw [if_pos hf]
        have hz256 : fs.getD i 0 < 256 := HZF.out _ (by rw [List.getD_eq_getElem?_getD, List.getElem?_eq_getElem hf]; exact List.getElem_mem hf)
        rw [hbd] at HSET
        obtain ⟨z, hzz⟩ : ∃ z, fs.getD i 0 = z := ⟨_, rfl⟩
        rw [hzz] at hcf hz256 HSET
        have hmod : ((z : Nat) : Int).tmod 10 = ((z % 10 : Nat) : Int) := by rw [Int.tmod_eq_emod_of_nonneg (by omega)]; rfl
        have hy9 : z % 10 ≤ 9 := by omega
        obtain ⟨y, hy⟩ : ∃ y, z % 10 = y := ⟨_, rfl⟩
        rw [hy] at hmod hy9 HSET
        have y0 : (0 : Int) ≤ (y : Int) := by omega
        have y9 : (y : Int) ≤ 9 := by omega
        clear hzz hy hy9 hz256 hbd
        have HO4 : Hid ((w3.setCell ⟨g, i, none⟩ (.int .u8 (48 + (y : Int)))).ownsRow w1.heap.size 5 1 (.slice (some ⟨g, 0, none⟩) 800 800) 800 (vals .u8 (btx fs (i + 1)))) := Lib.hid (by
          have h := (HO3.out.stored i (.int .u8 ((48 + y : Nat) : Int))).1
          rw [vals_set, List.set_set, HSET.out, show ((48 + y : Nat) : Int) = 48 + (y : Int) by omega] at h
          exact h)
        have HB4 : Hid (Below w1.heap.size w1 (w3.setCell ⟨g, i, none⟩ (.int .u8 (48 + (y : Int))))) := Lib.hid (HB3.out.setCell (p := ⟨g, i, none⟩) (by rw [HG.out]; exact Nat.le_refl _) _)
        go_wp2_with fail
        go_roundw
        case rel => exact ⟨i + 1, by omega, by go_num, HO4.out, HB4.out⟩
        case measure => simp [RowKit.intOf]; omega
      · have hfI : ¬ (i : Int) < (fs.length : Int) := by omega
        have hbd : bdg fs i = 48 := by unfold bdg; rw [if_neg hf]
        rw [hbd] at HSET
        go_wp2_with fail
        go_roundw
        case rel => exact ⟨i + 1, by omega, by go_num, by rw [← HSET.out]; exact HO3.out, HB3.out⟩
        case measure => simp [RowKit.intOf]; omega
    · obtain rfl : i = 800 := by omega
      rw [show ((800 : Nat) : Int) = 800 from rfl]
      have hcell := HO.out.cellAt 0 (by decide)
      have hfz := HO.out.frozenAt 0
      rw [vals_get _ _ _ (by rw [btx_length]; decide), btx_at _ _ _ (by decide), if_pos (by decide)] at hcell
      have hbr := bdg_range fs 0
      have HSAME := Lib.hid (bhd_same fs)
      have HHD : Hid (bdg fs 0 = 48 → bhd fs = (btx fs 800).set 0 49) := Lib.hid (fun h => by unfold bhd; rw [if_pos h])
      have HFX := Lib.hid (bhd_facts fs)
      generalize bdg fs 0 = b0 at *
      generalize btx fs 800 = T0 at *
      generalize bhd fs = T at *
      go_upto_if 47 with fail
      go_cut [11] (fun v11 wx => v11 = .slice (some ⟨g, 0, none⟩) 800 800 ∧ wx.ownsRow w1.heap.size 5 1 (.slice (some ⟨g, 0, none⟩) 800 800) 800 (vals .u8 T) ∧ Below w1.heap.size w1 wx)
      case first =>
        by_cases hb0 : b0 = 48
        · subst hb0
          have HO5 : Hid ((wr.setCell ⟨g, 0, none⟩ (.int .u8 49)).ownsRow w1.heap.size 5 1 (.slice (some ⟨g, 0, none⟩) 800 800) 800 (vals .u8 T)) := Lib.hid (by
            have h := (HO.out.stored 0 (.int .u8 ((49 : Nat) : Int))).1
            rw [vals_set, ← HHD.out rfl] at h
            exact h)
          have HB5 : Hid (Below w1.heap.size w1 (wr.setCell ⟨g, 0, none⟩ (.int .u8 49))) := Lib.hid (HB.out.setCell (p := ⟨g, 0, none⟩) (by rw [HG.out]; exact Nat.le_refl _) _)
          go_wp2_with fail
          go_meet
          case rel => exact ⟨rfl, HO5.out, HB5.out⟩
        · have hb0I : ((b0 : Int) == 48) = false := by rw [beq_eq_false_iff_ne]; omega
          go_wp2_with fail
          go_meet
          case rel => exact ⟨rfl, by rw [HSAME.out hb0]; exact HO.out, HB.out⟩
      case rest =>
        obtain ⟨rfl, hown, hbel⟩ := hcut
        obtain ⟨hTl, hTd, hTf⟩ := HFX.out
        have hcv := row_string (fun x hx => by have := hTd x hx; omega) hTl hown (by decide)
        have HO6 := Lib.hid hown
        have HB6 := Lib.hid hbel
        have HGL := Lib.hid (hown.lt g rfl).2
        clear hown hbel hcell hfz hbr HO HB HSAME HHD HO2 HB2 hi8 hlt
        go_upto_region 13 with fail
        have HS := Lib.hid (Blk.new wc 23 #[.bool neg, .string (strOf T), .int .i64 p])
        have HGE : Hid (w.heap.size ≤ wc.heap.size) := Lib.hid (Nat.le_trans HB1.out.size HB6.out.size)
        have HO7 := Lib.hid (HO6.out.alloc (.cells #[.bool neg, .string (strOf T), .int .i64 p] 23))
        have HB7 := Lib.hid (HB6.out.alloc HB6.out.size (.cells #[.bool neg, .string (strOf T), .int .i64 p] 23))
        have HNE : Hid (some g ≠ some wc.heap.size) := Lib.hid (fun e => by injection e with e; have := HGL.out; omega)
        generalize wc.alloc (.cells #[.bool neg, .string (strOf T), .int .i64 p] 23) = wd at *
        generalize wc.heap.size = gs at *
        clear hcv HO6 HB6 HGL
        go_upto_block 2 with fail
        go_cut [11, 14] (fun v11 v14 wx => BzOut w1 gs neg p T ts v11 v14 wx)
        case first =>
          go_wp2_with fail
          go_loopw [11, 14, 15] (fun v11 v14 v15 wr => BzRel w1 gs neg p T ts v11 v14 v15 wr) (fun _ _ v15 _ => 1000 - (RowKit.intOf v15).toNat)
          case atStart => exact ⟨0, Nat.zero_le _, Nat.zero_le _, rfl, rfl, by rw [show T ++ dgz ts 0 = T by simp [dgz]]; exact HO7.out, HB7.out, HS.out, HNE.out⟩
          case round =>
            obtain ⟨i, hil, hi6, rfl, rfl, hown, hbel, hdg, hne⟩ := hrel
            have HO := Lib.hid hown
            have HB := Lib.hid hbel
            have HD := Lib.hid hdg
            have HNB := Lib.hid hne
            clear hown hbel hdg hne
            by_cases hlt : i < ts.length
            · by_cases h60 : i < 1000
              · have h60I : (i : Int) < 1000 := by omega
                have hltI : (i : Int) < (ts.length : Int) := by omega
                obtain ⟨A6, c6, rfl, h6c, h6m, -, -⟩ := own_rd HO.out
                obtain ⟨b, off, rfl, hc0⟩ := (HRT.out w (Below.refl _ _)).val hlt
                have hz256 : ts.getD i 0 < 256 := HZT.out _ (by rw [List.getD_eq_getElem?_getD, List.getElem?_eq_getElem hlt]; exact List.getElem_mem hlt)
                have HDS := Lib.hid (dgz_succ ts i hlt)
                have HAS := Lib.hid (anyD_succ ts i hlt)
                obtain ⟨z, hzz⟩ : ∃ z, ts.getD i 0 = z := ⟨_, rfl⟩
                rw [hzz] at hc0 hz256 HDS HAS
                have HCL : Hid (∀ wx, Below w.heap.size w wx → wx.cell? ⟨b, off + i, none⟩ = some (.int .u8 (z : Int))) := Lib.hid (fun wx h => (h.cell (p := ⟨b, off + i, none⟩) (World.block_lt_of_cell? w _ hc0)).trans hc0)
                have hcell := HCL.out wr (HB1.out.trans (HB.out.mono HB1.out.size))
                clear hc0
                have hmod : ((z : Nat) : Int).tmod 10 = ((z % 10 : Nat) : Int) := by rw [Int.tmod_eq_emod_of_nonneg (by omega)]; rfl
                have hy9 : z % 10 ≤ 9 := by omega
                obtain ⟨y, hy⟩ : ∃ y, z % 10 = y := ⟨_, rfl⟩
                rw [hy] at hmod hy9 HDS HAS
                have y0 : (0 : Int) ≤ (y : Int) := by omega
                have y9 : (y : Int) ≤ 9 := by omega
                clear hzz hy hy9 hz256
                have hHO := HO.out.alloc (.cells #[.int .u8 (48 + (y : Int))] 5)
                have HHO := Lib.hid hHO
                clear hHO
                go_wp2_with (at_builtin; refine wpList_append_any _ rfl _ _ _ rfl w1.heap.size 5 i0 (.int .u8 0) 1 1 Tryd.underlying42 hi hz0 hz1 hz2 rfl (by omega) (.slice A6 (800 + i) c6) (800 + i) (vals .u8 (T ++ dgz ts i)) rfl HHO.out (wr.heap.size + 1) (some ⟨wr.heap.size, 0, none⟩) 1 1 [.int .u8 (48 + (y : Int))] rfl ?c1 ?c2 ?c3 ?c4 ?c5 ?_)
                case c1 => exact ⟨rfl, fun _ => ⟨_, rfl, by simp, cell_one_new _ _ _⟩⟩
                case c2 => exact one_oneCell rfl
                case c3 => unfold maxLen; omega
                case c4 => omega
                case c5 => have := HB.out.size; simp; omega
                intro v2 w5 hown2 hg2 hor
                have HBa := Lib.hid (HB.out.alloc HB.out.size (.cells #[.int .u8 (48 + (y : Int))] 5))
                have HB8 := Lib.hid ((HB.out.alloc HB.out.size _).grown hg2 (by have := HB.out.size; simp; omega) (fun q hq => (HO.out.lt q hq).1))
                have HD8 : Hid (Blk w5 gs 23 #[.bool neg, .string (strOf T), .int .i64 p]) := Lib.hid ((HD.out.alloc _).grown hg2 (Ne.symm HNB.out))
                have HN8 : Hid (v2.ownBlock ≠ some gs) := Lib.hid (by
                  rcases hor with h | h
                  · rw [h]; exact HNB.out
                  · rw [h]; intro e; injection e with e; have := HD.out.lt; first | omega | (simp at e; omega))
                have HO8 : Hid (w5.ownsRow w1.heap.size 5 1 v2 (800 + (i + 1)) (vals .u8 (T ++ dgz ts (i + 1)))) := Lib.hid (by
                  rw [HDS.out, ← List.append_assoc, vals_append .u8 (T ++ dgz ts i), vals_one, show ((48 + y : Nat) : Int) = 48 + (y : Int) by omega]
                  exact hown2)
                clear hcell hown2 hg2 hor
                have hcell := HCL.out w5 (HB1.out.trans (HB8.out.mono HB1.out.size))
                generalize anyD ts i = B0 at *
                cases B0
                · by_cases hy0 : y = 0
                  · subst hy0
                    go_wp2_with fail
                    go_roundw
                    case rel => exact ⟨i + 1, by omega, by omega, by go_num, by rw [HAS.out]; rfl, HO8.out, HB8.out, HD8.out, HN8.out⟩
                    case measure => simp [RowKit.intOf]; omega
                  · have hyI : ((y : Int) == 0) = false := by rw [beq_eq_false_iff_ne]; omega
                    have hyB : (y != 0) = true := by simpa using hy0
                    have hyJ : ((y : Int) != 0) = true := by rw [bne_iff_ne]; omega
                    go_wp2_with fail
                    go_roundw
                    case rel => exact ⟨i + 1, by omega, by omega, by go_num, by first | (rw [HAS.out, hyB, hyJ]; rfl) | (rw [HAS.out, hyB]; rfl), HO8.out, HB8.out, HD8.out, HN8.out⟩
                    case measure => simp [RowKit.intOf]; omega
                · go_wp2_with fail
                  go_roundw
                  case rel => exact ⟨i + 1, by omega, by omega, by go_num, by rw [HAS.out]; rfl, HO8.out, HB8.out, HD8.out, HN8.out⟩
                  case measure => simp [RowKit.intOf]; omega
              · have h60I : ¬ (i : Int) < 1000 := by omega
                have hltI : (i : Int) < (ts.length : Int) := by omega
                go_wp2_with fail
                go_meet
                case rel => exact ⟨i, hil, hi6, rfl, HO.out, HB.out, HD.out, HNB.out⟩
            · have hltI : ¬ (i : Int) < (ts.length : Int) := by omega
              go_wp2_with fail
              go_meet
              case rel => exact ⟨i, hil, hi6, rfl, HO.out, HB.out, HD.out, HNB.out⟩
        case rest =>
          obtain ⟨i, hil, hi6, rfl, hown, hbel, hdg, hne⟩ := hcut
          obtain ⟨A8, c8, rfl, -, -, hgl, -⟩ := own_rd hown
          have hGl : (T ++ dgz ts i).length = 800 + i := by rw [List.length_append, dgz_length ts i hil, hTl]
          have hGd : ∀ x ∈ T ++ dgz ts i, x < 256 := fun x hx => by
            rcases List.mem_append.1 hx with h | h
            · have := hTd x h; omega
            · have := dgz_mem ts i x h; omega
          have hcv := row_string hGd hGl hown (by omega)
          have HB := Lib.hid (HB1.out.trans (hbel.mono HB1.out.size))
          have HD := Lib.hid hdg
          have HALL := Lib.hid (fun s x y => @behind_all u neg T ts i s p x y hTl hTd hTf)
          have HSZ := Lib.hid (show (strOf (T ++ dgz ts i)).size ≤ 1800 by rw [strOf_len]; omega)
          have HSZ2 := Lib.hid (show (strOf T).size = 800 by rw [strOf_len]; exact hTl)
          generalize strOf (T ++ dgz ts i) = G at *
          generalize strOf T = S at *
          clear hown hbel hdg hne hgl hGl hGd HO7 HB7 HS HNE HRF HRT HZF HZT HFX hTl hTd hTf
          go_upto_region 20 with fail
          have HG := Lib.hid (Blk.new wc 23 #[.bool neg, .string G, .int .i64 p])
          have HD2 := Lib.hid (HD.out.alloc (.cells #[.bool neg, .string G, .int .i64 p] 23))
          have HB2 := Lib.hid (HB.out.alloc HB.out.size (.cells #[.bool neg, .string G, .int .i64 p] 23))
          have HLT := HD.out.lt
          generalize wc.alloc (.cells #[.bool neg, .string G, .int .i64 p] 23) = wz at *
          generalize wc.heap.size = gl at *
          clear hcv HD HB
          have HR2 := Lib.hid (fun wx (h : Below w.heap.size w wx) => lread_any u HU.out.1 HU.out.2 neg G p wx (HT.out wx h) (by have := HSZ.out; omega) HP.out.1 HP.out.2)
          generalize anyD ts i = B0 at *
          cases B0
          · have HR1 := Lib.hid (fun wx (h : Below w.heap.size w wx) => lread_any u HU.out.1 HU.out.2 neg (S) p wx (HT.out wx h) (by have := HSZ2.out; omega) HP.out.1 HP.out.2)
            have c0 : wz.cell? ⟨gs, 0, none⟩ = some (.bool neg) := HD2.out.cell 0
            have c1 : wz.cell? ⟨gs, 1, none⟩ = some (.string (S)) := HD2.out.cell 1
            have c2 : wz.cell? ⟨gs, 2, none⟩ = some (.int .i64 p) := HD2.out.cell 2
            go_wp2_with fail
            refine (HR1.out _ HB2.out).mono ?_
            rintro e we ⟨x, rfl, hb, hx⟩
            have HX := Lib.hid hx
            have HG4 := Lib.hid (HG.out.below hb HG.out.lt)
            have HB4 := Lib.hid (HB2.out.trans (hb.mono HB2.out.size))
            clear hb hx c0 c1 c2 HR1
            have c0 : we.cell? ⟨gl, 0, none⟩ = some (.bool neg) := HG4.out.cell 0
            have c1 : we.cell? ⟨gl, 1, none⟩ = some (.string G) := HG4.out.cell 1
            have c2 : we.cell? ⟨gl, 2, none⟩ = some (.int .i64 p) := HG4.out.cell 2
            go_wp2_with fail
            refine (HR2.out _ HB4.out).mono ?_
            rintro e wf ⟨y, rfl, hb, hy⟩
            obtain ⟨f1, f2, hxy⟩ := HALL.out (S) x y (by simp) HX.out hy
            subst hxy
            have HB5 := Lib.hid (HB4.out.trans (hb.mono HB4.out.size))
            clear hb hy HX c0 c1 c2 HR2 HALL
            rw [f1, f2]
            go_wp2_with fail
            go_ret
            exact ⟨rfl, HB5.out⟩
          · have hsz := HSZ2.out
            have c1 : wz.cell? ⟨gs, 1, none⟩ = some (.string S) := HD2.out.cell 1
            have hfz := HD2.out.frozen 1
            go_upto_region 22 with fail
            have HD3 : Hid (Blk (wz.setCell ⟨gs, 1, none⟩ (.string (S ++ ⟨#[49]⟩))) gs 23 #[.bool neg, .string (S ++ ⟨#[49]⟩), .int .i64 p]) := Lib.hid (HD2.out.set_ 1 (.string (S ++ ⟨#[49]⟩)))
            have HG3 : Hid (Blk (wz.setCell ⟨gs, 1, none⟩ (.string (S ++ ⟨#[49]⟩))) gl 23 #[.bool neg, .string G, .int .i64 p]) := Lib.hid (HG.out.far (p := ⟨gs, 1, none⟩) (fun e => by have e' : gl = gs := e; omega) _)
            have HB3 : Hid (Below w.heap.size w (wz.setCell ⟨gs, 1, none⟩ (.string (S ++ ⟨#[49]⟩)))) := Lib.hid (HB2.out.setCell (p := ⟨gs, 1, none⟩) HGE.out _)
            generalize wz.setCell ⟨gs, 1, none⟩ (.string (S ++ ⟨#[49]⟩)) = wz at *
            clear c1 hfz hsz HD2 HG HB2
            have HR1 := Lib.hid (fun wx (h : Below w.heap.size w wx) => lread_any u HU.out.1 HU.out.2 neg (S ++ ⟨#[49]⟩) p wx (HT.out wx h) (by have := HSZ2.out; rw [ByteArray.size_append, this]; decide) HP.out.1 HP.out.2)
            have c0 : wz.cell? ⟨gs, 0, none⟩ = some (.bool neg) := HD3.out.cell 0
            have c1 : wz.cell? ⟨gs, 1, none⟩ = some (.string (S ++ ⟨#[49]⟩)) := HD3.out.cell 1
            have c2 : wz.cell? ⟨gs, 2, none⟩ = some (.int .i64 p) := HD3.out.cell 2
            go_wp2_with fail
            refine (HR1.out _ HB3.out).mono ?_
            rintro e we ⟨x, rfl, hb, hx⟩
            have HX := Lib.hid hx
            have HG4 := Lib.hid (HG3.out.below hb HG3.out.lt)
            have HB4 := Lib.hid (HB3.out.trans (hb.mono HB3.out.size))
            clear hb hx c0 c1 c2 HR1
            have c0 : we.cell? ⟨gl, 0, none⟩ = some (.bool neg) := HG4.out.cell 0
            have c1 : we.cell? ⟨gl, 1, none⟩ = some (.string G) := HG4.out.cell 1
            have c2 : we.cell? ⟨gl, 2, none⟩ = some (.int .i64 p) := HG4.out.cell 2
            go_wp2_with fail
            refine (HR2.out _ HB4.out).mono ?_
            rintro e wf ⟨y, rfl, hb, hy⟩
            obtain ⟨f1, f2, hxy⟩ := HALL.out (S ++ ⟨#[49]⟩) x y (by rw [ByteArray.data_append]; simp) HX.out hy
            subst hxy
            have HB5 := Lib.hid (HB4.out.trans (hb.mono HB4.out.size))
            clear hb hy HX c0 c1 c2 HR2 HALL
            rw [f1, f2]
            go_wp2_with fail
            go_ret
            exact ⟨rfl, HB5.out⟩
end Go.Proofs.YtgckfilmhnapeaaDoor
