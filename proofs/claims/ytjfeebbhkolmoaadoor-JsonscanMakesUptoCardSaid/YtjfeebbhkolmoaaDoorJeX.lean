/- Chapter 10 of the program: Scan (for seat json). -/
import Derived.Test.YtjfeebbhkolmoaaDoorJeS
import Derived.Test.YtjfeebbhkolmoaaDoorJErrLaw

namespace Go.Proofs.YtjfeebbhkolmoaaDoor.E
open Go.RowKit
set_option linter.unusedVariables false

section
open Go.RowKit Go.Lib
set_option maxRecDepth 100000 in
theorem bad_err (n : Int) (a : Nat → Addr) (w : World) (he : Errs w a) :
    Calls Tryd.prog 39 #[.int .i64 n] w fun e w' => e = .returned (.iface 75 (.pointer (some ⟨w.heap.size, 0, none⟩))) ∧ FaultB w' w.heap.size (a 2) n ∧ Below w.heap.size w w' := by
  have s2 : w.cell? ⟨3, 0, none⟩ = _ := he.sen 2 (by decide)
  clear he
  go_enter Tryd.func39, Tryd.ntmps39
  go_wp2_with fail
  go_ret
  exact ⟨rfl, Blk.new _ _ _, (Below.refl _ _).alloc (Nat.le_refl _) _⟩
def bytesAt (b : Nat → Nat) (k n : Nat) : List Nat := (List.range n).map fun j => b (k + j)
theorem bytesAt_len (b : Nat → Nat) (k n : Nat) : (bytesAt b k n).length = n := by unfold bytesAt; simp
theorem ext_cells (s : ByteArray) (k n : Nat) (h : k + n ≤ s.size) : strCells (s.extract k (k + n)) = vals .u8 (bytesAt (bt s) k n) := by
  unfold strCells vals bytesAt
  rw [List.map_map]
  apply List.ext_getElem
  · have hs : (s.extract k (k + n)).size = n := by simp; omega
    simp
    have : s.data.size = s.size := rfl
    omega
  · intro i h1 h2
    have hi : i < n := by simpa using h2
    simp only [List.getElem_map, List.getElem_range, Function.comp]
    rw [bt_in (s := s) (i := k + i) (by omega)]
    simp
    rfl
theorem bytesAt_byte (s : ByteArray) (k n : Nat) (h : k + n ≤ s.size) : ByteL (bytesAt (bt s) k n) := by
  intro x hx
  unfold bytesAt at hx
  obtain ⟨j, hj, rfl⟩ := List.mem_map.1 hx
  exact bt_lt (by have := List.mem_range.1 hj; omega)
theorem contN_le (b : Nat → Nat) (sz : Nat) : ∀ l i lo hi, i ≤ sz → (contN b sz l i lo hi).1 ≤ sz ∧ i ≤ (contN b sz l i lo hi).1 ∧ (contN b sz l i lo hi).1 ≤ i + l ∧ ((contN b sz l i lo hi).2 = true → (contN b sz l i lo hi).1 = i + l) := by
  intro l
  induction l with
  | zero => intro i lo hi h; unfold contN; exact ⟨h, Nat.le_refl _, Nat.le_refl _, fun _ => rfl⟩
  | succ l ih =>
    intro i lo hi h
    unfold contN
    by_cases q : i < sz ∧ lo ≤ b i ∧ b i ≤ hi
    · rw [if_pos q]
      have := ih (i + 1) 128 191 (by omega)
      exact ⟨this.1, by omega, by omega, fun k => by have := this.2.2.2 k; omega⟩
    · rw [if_neg q]
      exact ⟨h, Nat.le_refl _, by show i ≤ _; omega, fun k => by cases k⟩
theorem moreB_le (c : Nat) : 1 ≤ moreB c ∧ moreB c ≤ 3 := by unfold moreB; split <;> (try split) <;> omega
theorem pointN_le (b : Nat → Nat) (sz : Nat) (h : 0 < sz) : (pointN b sz).1 ≤ sz ∧ (pointN b sz).1 ≤ 4 ∧ ((pointN b sz).2 = true → 1 ≤ (pointN b sz).1) := by
  unfold pointN
  by_cases q : b 0 < 194 ∨ 244 < b 0
  · rw [if_pos q]; exact ⟨Nat.zero_le _, Nat.zero_le _, fun k => by cases k⟩
  · rw [if_neg q]
    have h1 := contN_le b sz (moreB (b 0)) 1 (loB (b 0)) (hiB (b 0)) h
    have h2 := moreB_le (b 0)
    exact ⟨h1.1, by omega, fun _ => h1.2.1⟩
theorem tri_le (l : List Nat) (n : Nat) (b : Bool) (h : l.length ≤ n) (h1 : 1 ≤ n) (h2 : n ≤ 12) : ((l, n, b) : List Nat × Nat × Bool).2.1 ≤ 12 ∧ 1 ≤ ((l, n, b) : List Nat × Nat × Bool).2.1 ∧ ((l, n, b) : List Nat × Nat × Bool).1.length ≤ ((l, n, b) : List Nat × Nat × Bool).2.1 := ⟨h2, h1, h⟩
theorem strokeN_le (b : Nat → Nat) : (strokeN b).2.1 ≤ 12 ∧ 1 ≤ (strokeN b).2.1 ∧ (strokeN b).1.length ≤ (strokeN b).2.1 := by
  have u1 : (unitN (fun j => b (2 + j)) false 4 0 0).2.1 ≤ 4 := unit_n (fun j => b (2 + j)) false (unitN (fun j => b (2 + j)) false 4 0 0).1 (unitN (fun j => b (2 + j)) false 4 0 0).2.1 (unitN (fun j => b (2 + j)) false 4 0 0).2.2 rfl
  have u2 : (unitN (fun j => b (8 + j)) true 4 0 0).2.1 ≤ 4 := unit_n (fun j => b (8 + j)) true (unitN (fun j => b (8 + j)) true 4 0 0).1 (unitN (fun j => b (8 + j)) true 4 0 0).2.1 (unitN (fun j => b (8 + j)) true 4 0 0).2.2 rfl
  unfold strokeN
  split
  · exact tri_le _ _ _ (by show 1 ≤ 2; omega) (by omega) (by omega)
  split
  · exact tri_le _ _ _ (Nat.zero_le _) (by omega) (by omega)
  split
  · exact tri_le _ _ _ (Nat.zero_le _) (by omega) (by omega)
  split
  · exact tri_le _ _ _ (Nat.le_trans (encN_len _).2 (by omega)) (by omega) (by omega)
  split
  · exact tri_le _ _ _ (Nat.zero_le _) (by omega) (by omega)
  split
  · exact tri_le _ _ _ (Nat.zero_le _) (by omega) (by omega)
  split
  · exact tri_le _ _ _ (Nat.zero_le _) (by omega) (by omega)
  · exact tri_le _ _ _ (Nat.le_trans (encN_len _).2 (by omega)) (by omega) (by omega)
theorem byte_of (l : List Nat) (n : Nat) (b : Bool) (h : ByteL l) : ByteL ((l, n, b) : List Nat × Nat × Bool).1 := h
theorem byte_nil : ByteL [] := by intro x hx; cases hx
theorem strokeN_byte (b : Nat → Nat) : ByteL (strokeN b).1 := by
  unfold strokeN
  split
  · rename_i m hm; exact byte_of _ _ _ (.one (letM_lt _ _ hm))
  split
  · exact byte_of _ _ _ byte_nil
  split
  · exact byte_of _ _ _ byte_nil
  rename_i hok
  have f1 := unit_free (fun j => b (2 + j)) (unitN (fun j => b (2 + j)) false 4 0 0).1 (unitN (fun j => b (2 + j)) false 4 0 0).2.1 (by
    generalize unitN (fun j => b (2 + j)) false 4 0 0 = u at *
    obtain ⟨x, n, ok⟩ := u
    cases ok
    · exact absurd rfl hok
    · rfl)
  split
  · exact byte_of _ _ _ (encN_byte _ (by omega))
  rename_i h54
  split
  · exact byte_of _ _ _ byte_nil
  split
  · exact byte_of _ _ _ byte_nil
  split
  · exact byte_of _ _ _ byte_nil
  rename_i hok2
  have f2 := unit_low (fun j => b (8 + j)) (unitN (fun j => b (8 + j)) true 4 0 0).1 (unitN (fun j => b (8 + j)) true 4 0 0).2.1 (by
    generalize unitN (fun j => b (8 + j)) true 4 0 0 = u at *
    obtain ⟨x, n, ok⟩ := u
    cases ok
    · exact absurd rfl hok2
    · rfl)
  have h54' : (unitN (fun j => b (2 + j)) false 4 0 0).1 / 1024 = 54 := by
    by_cases k : (unitN (fun j => b (2 + j)) false 4 0 0).1 / 1024 = 54
    · exact k
    · exact absurd k h54
  exact byte_of _ _ _ (encN_byte _ (by omega))
/-- one piece of a literal: the bytes it says, how many it has, whether it is one -/
def pieceN (b : Nat → Nat) (sz i : Nat) : List Nat × Nat × Bool :=
  if b i = 92 then strokeN (fun j => b (i + j))
  else if 32 ≤ b i ∧ b i ≤ 127 then ([b i], 1, true)
  else (bytesAt b i (pointN (fun j => b (i + j)) (sz - i)).1, (pointN (fun j => b (i + j)) (sz - i)).1, (pointN (fun j => b (i + j)) (sz - i)).2)
def scanP (b : Nat → Nat) (sz : Nat) : Nat → Nat → List Nat → Except Nat (List Nat × Nat)
  | 0, _, _ => .error sz
  | f + 1, i, t => if sz ≤ i then .error sz else if b i = 34 then .ok (t, i + 1) else if (pieceN b sz i).2.2 = false then .error (i + (pieceN b sz i).2.1) else scanP b sz f (i + (pieceN b sz i).2.1) (t ++ (pieceN b sz i).1)
def scanQ (s : ByteArray) (a : Nat) : Except Nat (List Nat × Nat) := if s.size ≤ a ∨ bt s a ≠ 34 then .error a else scanP (bt s) s.size (s.size + 20) (a + 1) []
def ScanPost (w : World) (a : Nat → Addr) (R : Except Nat (List Nat × Nat)) (e : Ending) (w' : World) : Prop :=
  Below w.heap.size w w' ∧ match R with
  | .ok (t, n) => e = .returned (.tuple #[.string (strOf t), .int .i64 n, .nilIface])
  | .error i => ∃ g, e = .returned (.tuple #[.string ⟨#[]⟩, .int .i64 0, .iface 75 (.pointer (some ⟨g, 0, none⟩))]) ∧ FaultB w' g (a 2) i
end
section
open Go.RowKit Go.Lib
def SLRel (w : World) (s : ByteArray) (R : Except Nat (List Nat × Nat)) (v7 v8 : Value) (wr : World) : Prop :=
  ∃ (k f : Nat) (t : List Nat), v8 = .int .i64 k ∧ k ≤ s.size + 12 ∧ s.size + 12 < k + f ∧ t.length ≤ k ∧ ByteL t ∧ wr.ownsRow w.heap.size 5 1 v7 t.length (vals .u8 t) ∧ scanP (bt s) s.size f k t = R ∧ Below w.heap.size w wr
set_option maxRecDepth 100000 in
set_option maxHeartbeats 3000000 in
theorem scan_in (s : ByteArray) (hs : s.size ≤ 140737488351232) (n0 : Nat) (hn : n0 < s.size) (hq : s[n0].toNat = 34) (a : Nat → Addr) (w : World) (he : Errs w a) (hsh : Shorts w) (R : Except Nat (List Nat × Nat)) (hR : scanP (bt s) s.size (s.size + 20) (n0 + 1) [] = R) :
    Calls Tryd.prog 27 #[.string s, .int .i64 n0] w (ScanPost w a R) := by
  have HE := Lib.hid he
  have SH := Lib.hid hsh
  have HR := Lib.hid hR
  have HS := Lib.hid hs
  have a0 : ¬ ((n0 : Int) < 0) := by omega
  have a1 : ¬ ((s.size : Int) < (n0 : Int)) := by omega
  have a2 : ((n0 : Int) == (s.size : Int)) = false := by rw [beq_eq_false_iff_ne]; omega
  have a3 : (n0 : Int) < (s.size : Int) := by omega
  have e0 := Lib.hid (IntWalk.i64_in ((n0 : Int) + 1) (by omega))
  have e0 := e0.out
  clear he hsh hR hs
  obtain ⟨i0, hi, hz0, hz1, hz2⟩ := info_parts info_u8
  go_enter Tryd.func27, Tryd.ntmps27
  go_wp2_with fail
  go_loopw [4, 5, 6, 7, 8] (fun _ _ _ v7 v8 wr => SLRel w s R v7 v8 wr) (fun _ _ _ _ v8 _ => s.size - (intOf v8).toNat)
  case atStart => exact ⟨n0 + 1, s.size + 20, [], by go_num, by omega, by omega, Nat.zero_le _, (by intro x hx; cases hx), ⟨rfl, .inl ⟨rfl, rfl⟩⟩, HR.out, Below.refl _ _⟩
  case round =>
    obtain ⟨k, f, t, rfl, hk, hf, htl, hby, hown, hrun, hbel⟩ := hrel
    have HB := Lib.hid hbel
    have HO := Lib.hid hown
    have HTL := Lib.hid htl
    have HBY := Lib.hid hby
    have HF := Lib.hid hf
    have HSH := Lib.hid (SH.out.below HB.out)
    have HEW := Lib.hid (HE.out.below HB.out)
    obtain ⟨f, rfl⟩ : ∃ g, f = g + 1 := ⟨f - 1, by omega⟩
    rw [scanP] at hrun
    have HRUN := Lib.hid hrun
    clear hrun hbel hown htl hby hf a0 a1 a2 a3 e0
    have k0 : 0 ≤ (k : Int) := by omega
    by_cases hlt : k < s.size
    · have hrun := HRUN.out
      rw [if_neg (by omega)] at hrun
      have hlt' : (k : Int) < (s.size : Int) := by omega
      have hc := bt_lt hlt
      rw [bt_in hlt] at hc hrun
      have HBC := Lib.hid (bt_in hlt)
      clear HRUN
      generalize hcc : s[k].toNat = c at *
      by_cases h34 : c = 34
      · rw [if_pos h34] at hrun
        have HQ := Lib.hid hrun
        have z34 : ((c : Int) == 34) = true := by rw [beq_iff_eq]; omega
        obtain ⟨A, cp, rfl, -, -, -, -⟩ := own_rd HO.out
        have HCV := row_string_any HBY.out rfl HO.out
        have e1 := Lib.hid (IntWalk.i64_in ((k : Int) + 1) (by have := HS.out; omega))
        have e1 := e1.out
        clear hrun h34
        go_wp2_with fail
        go_ret3
        rw [← HQ.out]
        exact ⟨HB.out, rfl⟩
      · rw [if_neg h34] at hrun
        have z34 : ((c : Int) == 34) = false := by rw [beq_eq_false_iff_ne]; omega
        by_cases h92 : c = 92
        · have HPC : Hid (pieceN (bt s) s.size k = strokeN (fun j => bt s (k + j))) := Lib.hid (by unfold pieceN; rw [HBC.out, if_pos h92])
          have HST := Lib.hid (pstroke_any w.heap.size _ t (s.extract k s.size) (by simp; omega) wr HO.out (by have := HTL.out; have := HS.out; omega) HB.out.size HSH.out)
          rw [bt_extract s k (by omega)] at HST
          rw [HPC.out] at hrun
          have hle := strokeN_le (fun j => bt s (k + j))
          have z92 : ((c : Int) == 92) = true := by rw [beq_iff_eq]; omega
          have HBS : Hid (ByteL (strokeN (fun j => bt s (k + j))).1) := Lib.hid (strokeN_byte _)
          generalize strokeN (fun j => bt s (k + j)) = p at *
          obtain ⟨ys, n, ok⟩ := p
          have HLE := Lib.hid hle
          have HRN := Lib.hid hrun
          have e1 := Lib.hid (IntWalk.i64_in ((k : Int) + (n : Int)) (by have := HS.out; have := hle.1; simp only [] at this; omega))
          have e1 := e1.out
          clear hrun hle h92 h34
          go_wp2_with fail
          refine HST.out.mono ?_
          rintro e w2 ⟨v2, rfl, hown2, hb2, hs2⟩
          have HO2 := Lib.hid hown2
          have HB2 : Hid (Below w.heap.size w w2) := Lib.hid (HB.out.trans hb2)
          clear hown2 hb2 hs2 HST
          cases ok with
          | false =>
            have hrun := HRN.out
            rw [if_pos rfl] at hrun
            have HQ := Lib.hid hrun
            have BD := Lib.hid (fun wx (hb : Below w.heap.size w wx) => bad_err ((k + n : Nat) : Int) a wx (HE.out.below hb))
            rw [show (((k + n : Nat)) : Int) = (k : Int) + (n : Int) from by omega] at BD
            clear hrun HRN
            go_wp2_with fail
            refine (BD.out _ HB2.out).mono ?_
            rintro e w3 ⟨rfl, hf3, hb3⟩
            have HF3 := Lib.hid hf3
            have HB3 : Hid (Below w.heap.size w w3) := Lib.hid (HB2.out.trans (hb3.mono HB2.out.size))
            clear hf3 hb3
            go_wp2_with fail
            go_ret3
            rw [← HQ.out]
            exact ⟨HB3.out, w2.heap.size, rfl, HF3.out⟩
          | true =>
            have hrun := HRN.out
            rw [if_neg (show ¬ (true = false) from by decide)] at hrun
            have HQ := Lib.hid hrun
            clear hrun HRN
            go_wp2_with fail
            go_roundw
            case rel => exact ⟨k + n, f, t ++ ys, by go_num, by have := HLE.out.1; omega, by have := HF.out; have := HLE.out.2.1; omega, by have := HTL.out; have := HLE.out.2.2; rw [List.length_append]; omega, HBY.out.app HBS.out, HO2.out, HQ.out, HB2.out⟩
            case measure => have := HLE.out.2.1; simp [intOf]; omega
        · have z92 : ((c : Int) == 92) = false := by rw [beq_eq_false_iff_ne]; omega
          by_cases hmid : 32 ≤ c ∧ c ≤ 127
          · have HPC : Hid (pieceN (bt s) s.size k = ([c], 1, true)) := Lib.hid (by unfold pieceN; rw [HBC.out, if_neg h92, if_pos hmid])
            rw [HPC.out, if_neg (show ¬ (true = false) from by decide)] at hrun
            have HQ := Lib.hid hrun
            have HWI := Lib.hid (fun wx g hb => within_any c 32 127 g wx hb)
            rw [show decide (32 ≤ c ∧ c ≤ 127) = true from decide_eq_true hmid] at HWI
            have e1 := Lib.hid (IntWalk.i64_in ((k : Int) + 1) (by have := HS.out; omega))
            have e1 := e1.out
            have HC256 := Lib.hid hc
            clear hrun h92 h34 hmid hc
            have HBA : Hid (Below w.heap.size w (wr.alloc (.cells #[.int .u8 32, .int .u8 127] 5))) := Lib.hid (HB.out.alloc HB.out.size _)
            have HOA := Lib.hid (HO.out.alloc (.cells #[.int .u8 32, .int .u8 127] 5))
            go_wp2_with fail
            refine (HWI.out _ wr.heap.size (Blk.new _ _ _)).mono ?_
            rintro e w' ⟨rfl, hw⟩
            have hw := hw.symm
            generalize (wr.alloc (.cells #[.int .u8 32, .int .u8 127] 5)) = w1 at *
            subst hw
            have HP := Lib.hid (HOA.out.alloc (.cells #[.int .u8 c] 5))
            go_wp2_with (at_builtin; refine wpList_append_own _ rfl _ _ 35 rfl w.heap.size 5 i0 (.int .u8 0) 1 1 Tryd.underlying35 hi hz0 hz1 hz2 rfl (by decide) _ _ _ rfl HP.out ⟨w1.heap.size, 0, none⟩ 1 1 [.int .u8 c] rfl rfl ?c1 ?c2 ?c3 ?c4 ?c5 ?_)
            (try case c1 => exact World.news_of_block (cs := #[.int .u8 c]) (heap_alloc_new _ _))
            case c2 => first | rfl | exact one_mem [c]
            case c3 => unfold maxLen; have := HTL.out; have := HS.out; omega
            case c4 => have := HTL.out; have := HS.out; omega
            case c5 => have := HBA.out.size; simp; omega
            intro v2 w2 hown2 hg2 _
            have HO2 : Hid (w2.ownsRow w.heap.size 5 1 v2 (t ++ [c]).length (vals .u8 (t ++ [c]))) := Lib.hid (by rw [List.length_append, vals_append]; exact hown2)
            have HB2 : Hid (Below w.heap.size w w2) := Lib.hid ((HBA.out.alloc HBA.out.size _).grown hg2 (by have := HBA.out.size; simp; omega) (fun q hq => (HOA.out.lt q hq).1))
            clear hown2 hg2
            go_wp2_with fail
            go_roundw
            case rel => exact ⟨k + 1, f, t ++ [c], by go_num, by omega, by have := HF.out; omega, by have := HTL.out; rw [List.length_append]; show _ + 1 ≤ _; omega, HBY.out.app (.one HC256.out), HO2.out, HQ.out, HB2.out⟩
            case measure => simp [intOf]; omega
          · have HPC : Hid (pieceN (bt s) s.size k = (bytesAt (bt s) k (pointN (fun j => bt s (k + j)) (s.size - k)).1, (pointN (fun j => bt s (k + j)) (s.size - k)).1, (pointN (fun j => bt s (k + j)) (s.size - k)).2)) := Lib.hid (by unfold pieceN; rw [HBC.out, if_neg h92, if_neg hmid])
            rw [HPC.out] at hrun
            have HWI := Lib.hid (fun wx g hb => within_any c 32 127 g wx hb)
            rw [show decide (32 ≤ c ∧ c ≤ 127) = false from decide_eq_false hmid] at HWI
            have hse : (s.extract k s.size).size = s.size - k := by simp
            have HPO := Lib.hid (fun wx => spoint_any (s.extract k s.size) (by rw [hse]; omega) (by rw [hse]; have := HS.out; omega) wx)
            rw [bt_extract s k (by omega), hse] at HPO
            have hle := pointN_le (fun j => bt s (k + j)) (s.size - k) (by omega)
            generalize pointN (fun j => bt s (k + j)) (s.size - k) = p at *
            obtain ⟨n, ok⟩ := p
            simp only [] at hle hrun
            have hns : k + n ≤ s.size := by have := hle.1; omega
            have hns' : (k : Int) + (n : Int) ≤ (s.size : Int) := by omega
            have HNS := Lib.hid hns
            have HLE := Lib.hid hle
            have HRN := Lib.hid hrun
            have HXC := Lib.hid (ext_cells s k n hns)
            have HXS : Hid ((s.extract k (k + n)).size = n) := Lib.hid (by simp; omega)
            have HXB := Lib.hid (bytesAt_byte s k n hns)
            have HXL := Lib.hid (bytesAt_len (bt s) k n)
            have e1 := Lib.hid (IntWalk.i64_in ((k : Int) + (n : Int)) (by have := HS.out; omega))
            have e1 := e1.out
            have n0' : 0 ≤ (n : Int) := by omega
            clear hrun hle h92 h34 hmid hse hns
            have HBA : Hid (Below w.heap.size w (wr.alloc (.cells #[.int .u8 32, .int .u8 127] 5))) := Lib.hid (HB.out.alloc HB.out.size _)
            have HOA := Lib.hid (HO.out.alloc (.cells #[.int .u8 32, .int .u8 127] 5))
            go_wp2_with fail
            refine (HWI.out _ wr.heap.size (Blk.new _ _ _)).mono ?_
            rintro e w' ⟨rfl, hw⟩
            have hw := hw.symm
            generalize (wr.alloc (.cells #[.int .u8 32, .int .u8 127] 5)) = w1 at *
            subst hw
            go_wp2_with fail
            refine (HPO.out _).mono ?_
            rintro e w4 ⟨rfl, hb4⟩
            have HB4 : Hid (Below w.heap.size w w4) := Lib.hid (HBA.out.trans (hb4.mono HBA.out.size))
            have HOW4 := Lib.hid (own_below HOA.out hb4)
            clear hb4 HPO
            go_upto_region 11 with fail
            go_wp2_with (at_builtin; refine wpList_append_own_string _ rfl _ _ 35 9 rfl w.heap.size 5 i0 Tryd.underlying35 Tryd.underlying9 hi hz0 hz1 hz2 _ t.length (vals .u8 t) rfl HOW4.out (s.extract k (k + n)) rfl ?c1 ?c2 ?c3 ?_)
            case c1 => unfold maxLen; have := HTL.out; have := HXS.out; have := HS.out; have := HLE.out.2.1; omega
            case c2 => have := HTL.out; have := HXS.out; have := HS.out; have := HLE.out.2.1; omega
            case c3 => exact HB4.out.size
            intro v2 w2 hown2 hg2 _
            have HO2 : Hid (w2.ownsRow w.heap.size 5 1 v2 (t ++ bytesAt (bt s) k n).length (vals .u8 (t ++ bytesAt (bt s) k n))) := Lib.hid (by
              have hmn : min (k + n) s.size - k = n := by have := HNS.out; omega
              rw [HXC.out, hmn] at hown2
              rw [List.length_append, HXL.out, vals_append]
              exact hown2)
            have HB2 : Hid (Below w.heap.size w w2) := Lib.hid (HB4.out.grown hg2 HB4.out.size (fun q hq => (HOW4.out.lt q hq).1))
            clear hown2 hg2
            cases ok with
            | false =>
              have hrun := HRN.out
              rw [if_pos rfl] at hrun
              have HQ := Lib.hid hrun
              have BD := Lib.hid (fun wx (hb : Below w.heap.size w wx) => bad_err ((k + n : Nat) : Int) a wx (HE.out.below hb))
              rw [show (((k + n : Nat)) : Int) = (k : Int) + (n : Int) from by omega] at BD
              clear hrun HRN
              go_wp2_with fail
              refine (BD.out _ HB2.out).mono ?_
              rintro e w3 ⟨rfl, hf3, hb3⟩
              have HF3 := Lib.hid hf3
              have HB3 : Hid (Below w.heap.size w w3) := Lib.hid (HB2.out.trans (hb3.mono HB2.out.size))
              clear hf3 hb3
              go_wp2_with fail
              go_ret3
              rw [← HQ.out]
              exact ⟨HB3.out, w2.heap.size, rfl, HF3.out⟩
            | true =>
              have hrun := HRN.out
              rw [if_neg (show ¬ (true = false) from by decide)] at hrun
              have HQ := Lib.hid hrun
              clear hrun HRN
              go_wp2_with fail
              go_roundw
              case rel => exact ⟨k + n, f, t ++ bytesAt (bt s) k n, by go_num, by have := HNS.out; omega, by have := HF.out; have := HLE.out.2.2 rfl; omega, by have := HTL.out; rw [List.length_append, HXL.out]; omega, HBY.out.app HXB.out, HO2.out, HQ.out, HB2.out⟩
              case measure => have := HLE.out.2.2 rfl; simp [intOf]; omega
    · have hrun := HRUN.out
      rw [if_pos (by omega)] at hrun
      have HQ := Lib.hid hrun
      have hlt' : ¬ ((k : Int) < (s.size : Int)) := by omega
      have BD := Lib.hid (bad_err (s.size : Int) a wr HEW.out)
      clear hrun HRUN
      go_wp2_with fail
      refine BD.out.mono ?_
      rintro e w2 ⟨rfl, hf2, hb2⟩
      have HF2 := Lib.hid hf2
      have HB2 : Hid (Below w.heap.size w w2) := Lib.hid (HB.out.trans (hb2.mono HB.out.size))
      clear hf2 hb2
      go_wp2_with fail
      go_ret3
      rw [← HQ.out]
      exact ⟨HB2.out, wr.heap.size, rfl, HF2.out⟩
set_option maxRecDepth 100000 in
theorem scan_out (s : ByteArray) (n0 : Nat) (hn : n0 ≤ s.size) (hq : s.size ≤ n0 ∨ bt s n0 ≠ 34) (a : Nat → Addr) (w : World) (he : Errs w a) :
    Calls Tryd.prog 27 #[.string s, .int .i64 n0] w (ScanPost w a (.error n0)) := by
  have BD := Lib.hid (bad_err (n0 : Int) a w he)
  have a0 : ¬ ((n0 : Int) < 0) := by omega
  have a1 : ¬ ((s.size : Int) < (n0 : Int)) := by omega
  by_cases h : n0 < s.size
  · have a2 : ((n0 : Int) == (s.size : Int)) = false := by rw [beq_eq_false_iff_ne]; omega
    have a3 : (n0 : Int) < (s.size : Int) := by omega
    have hc : s[n0].toNat ≠ 34 := by
      rcases hq with k | k
      · omega
      · rwa [bt_in h] at k
    generalize hcc : s[n0].toNat = c at *
    have z : ((c : Int) != 34) = true := by rw [bne_iff_ne]; omega
    clear hq hc
    go_enter Tryd.func27, Tryd.ntmps27
    go_wp2_with fail
    refine BD.out.mono ?_
    rintro e w2 ⟨rfl, hf2, hb2⟩
    have HF2 := Lib.hid hf2
    have HB2 := Lib.hid hb2
    clear hf2 hb2
    go_wp2_with fail
    go_ret3
    exact ⟨HB2.out, w.heap.size, rfl, HF2.out⟩
  · obtain rfl : n0 = s.size := by omega
    clear hq
    go_enter Tryd.func27, Tryd.ntmps27
    go_wp2_with fail
    refine BD.out.mono ?_
    rintro e w2 ⟨rfl, hf2, hb2⟩
    have HF2 := Lib.hid hf2
    have HB2 := Lib.hid hb2
    clear hf2 hb2
    go_wp2_with fail
    go_ret3
    exact ⟨HB2.out, w.heap.size, rfl, HF2.out⟩
theorem scan_at (s : ByteArray) (hs : s.size ≤ 140737488351232) (n0 : Nat) (hn : n0 ≤ s.size) (a : Nat → Addr) (w : World) (he : Errs w a) (hsh : Shorts w) :
    Calls Tryd.prog 27 #[.string s, .int .i64 n0] w (ScanPost w a (scanQ s n0)) := by
  unfold scanQ
  by_cases h : s.size ≤ n0 ∨ bt s n0 ≠ 34
  · rw [if_pos h]; exact scan_out s n0 hn h a w he
  · rw [if_neg h]
    have h1 : n0 < s.size := by omega
    exact scan_in s hs n0 h1 (by have : bt s n0 = 34 := by omega
                                 rwa [bt_in h1] at this) a w he hsh _ rfl
set_option maxRecDepth 100000 in
theorem scan_arg (s : ByteArray) (n : Int) (hn : n < 0 ∨ (s.size : Int) < n) (a : Nat → Addr) (w : World) (he : Errs w a) :
    Calls Tryd.prog 27 #[.string s, .int .i64 n] w fun e w' => e = .returned (.tuple #[.string ⟨#[]⟩, .int .i64 0, .iface 142 (.pointer (some (a 0)))]) ∧ Below w.heap.size w w' := by
  have s0 : w.cell? ⟨2, 0, none⟩ = _ := he.sen 0 (by decide)
  clear he
  rcases hn with h | h
  · go_enter Tryd.func27, Tryd.ntmps27
    go_upto_region 2 with fail
    go_region_law (fail)
    all_goals
      go_wp2_with fail
      go_ret3
      exact ⟨rfl, below_drewN' (Below.refl _ _) 1⟩
  · have h' : ¬ (n < 0) := by omega
    go_enter Tryd.func27, Tryd.ntmps27
    go_upto_region 2 with fail
    go_region_law (fail)
    all_goals
      go_wp2_with fail
      go_ret3
      exact ⟨rfl, below_drewN' (Below.refl _ _) 1⟩
end
end Go.Proofs.YtjfeebbhkolmoaaDoor.E
