/- Contracts of cruciblelaw01.At, Path, Code, Is, IsAt. -/
import Derived.Test.YtjfeebbhkolmoaaDoorJErrAs
import Derived.Deep.Cut
import Derived.Deep.DeepCutAuto
import Derived.Deep.RegionLaw
import Derived.Deep.AppendLies
namespace Go.Proofs.YtjfeebbhkolmoaaDoor
open Go.RowKit
set_option linter.unusedVariables false

/-- the sentinels' places among the globals -/
def gS (k : Nat) : Nat := if k = 0 then 2 else if k = 1 then 0 else k + 1
theorem gS_le (k : Nat) (h : k < 11) : gS k < 12 := by unfold gS; repeat' split
                                                       all_goals omega
/-- what the listed variables give: the sentinels, unlike one another, and the type 'error' -/
structure Errs (w : World) (a : Nat → Addr) : Prop where
  typ : w.cell? ⟨12, 0, none⟩ = some (.iface 120 (.agg #[.pointer (some ⟨14, 48, none⟩)]))
  sen : ∀ k, k < 11 → w.cell? ⟨gS k, 0, none⟩ = some (.iface 142 (.pointer (some (a k))))
  blk : ∀ k, k < 11 → ∃ c t, w.heap[(a k).block]? = some (.cells c t (0, 0))
  ne : ∀ i j, i < 11 → j < 11 → i ≠ j → a i ≠ a j
theorem Errs.low {w : World} {a : Nat → Addr} (h : Errs w a) : 12 < w.heap.size := World.block_lt_of_cell? w _ h.typ
theorem Errs.below {w w' : World} {a : Nat → Addr} (h : Errs w a) (hb : Below w.heap.size w w') : Errs w' a where
  typ := (hb.cell (p := ⟨12, 0, none⟩) h.low).trans h.typ
  sen k hk := (hb.cell (p := ⟨gS k, 0, none⟩) (by have := h.low; have := gS_le k hk; show gS k < _; omega)).trans (h.sen k hk)
  blk k hk := by
    obtain ⟨c, t, e⟩ := h.blk k hk
    refine ⟨c, t, (hb.block _ ?_).trans e⟩
    exact (Array.getElem?_eq_some_iff.1 e).1
  ne := h.ne
def FaultB (w : World) (g : Nat) (a : Addr) (n : Int) : Prop := Blk w g 79 #[.iface 142 (.pointer (some a)), .int .i64 n, .string ⟨#[]⟩]

theorem as_fault (g gt : Nat) (w : World) (a : Nat → Addr) (he : Errs w a) (hb : Blk w gt 75 #[.pointer none]) :
    Calls Tryd.prog 35 #[.iface 75 (.pointer (some ⟨g, 0, none⟩)), .iface 77 (.pointer (some ⟨gt, 0, none⟩))] w fun ev w' => ev = .returned (.bool true) ∧ Blk w' gt 75 #[.pointer (some ⟨g, 0, none⟩)] ∧ Below gt w w' := by
  refine (as_hit ⟨g, 0, none⟩ ⟨gt, 0, none⟩ (.pointer none) w he.typ (hb.cell 0) (hb.frozen 0)).mono ?_
  rintro e w' ⟨rfl, rfl⟩
  have hl := hb.lt
  refine ⟨rfl, ((((hb.alloc _).alloc _).alloc _).alloc _).set_ 0 _, ?_⟩
  exact (((((Below.refl gt w).alloc (by omega) _).alloc (by simp; omega) _).alloc (by simp; omega) _).alloc (by simp; omega) _).setCell (p := ⟨gt, 0, none⟩) (Nat.le_refl _) _

set_option maxRecDepth 100000 in
theorem at_fault (g : Nat) (n : Int) (a : Nat → Addr) (w : World) (K : Nat) (hK : K < 11) (he : Errs w a) (hf : FaultB w g (a K) n) :
    Calls Tryd.prog 22 #[.iface 75 (.pointer (some ⟨g, 0, none⟩))] w fun e w' => e = .returned (.tuple #[.int .i64 n, .bool true]) ∧ Below w.heap.size w w' := by
  have HE := Lib.hid (he.below ((Below.refl w.heap.size w).alloc (Nat.le_refl _) (.cells #[.pointer none] 75)))
  have HF := Lib.hid hf
  have HA := Lib.hid (as_fault g w.heap.size (w.alloc (.cells #[.pointer none] 75)) a HE.out (Blk.new _ _ _))
  clear he hf HE
  go_enter Tryd.func22, Tryd.ntmps22
  go_wp2_with fail
  refine HA.out.mono ?_
  rintro e w2 ⟨rfl, hk, hb⟩
  have HB2 : Hid (Below w.heap.size w w2) := Lib.hid (((Below.refl w.heap.size w).alloc (Nat.le_refl _) _).trans hb)
  have hf2 : FaultB w2 g (a K) n := HF.out.below HB2.out HF.out.lt
  have c0 := hk.cell 0
  have f1 := hf2.cell 1
  clear hk hb hf2
  go_wp2_with fail
  go_ret2
  exact ⟨rfl, HB2.out⟩

set_option maxRecDepth 100000 in
theorem path_fault (g : Nat) (n : Int) (a : Nat → Addr) (w : World) (K : Nat) (hK : K < 11) (he : Errs w a) (hf : FaultB w g (a K) n) :
    Calls Tryd.prog 36 #[.iface 75 (.pointer (some ⟨g, 0, none⟩))] w fun e w' => e = .returned (.tuple #[.string ⟨#[]⟩, .bool true]) ∧ Below w.heap.size w w' := by
  have HE := Lib.hid (he.below ((Below.refl w.heap.size w).alloc (Nat.le_refl _) (.cells #[.pointer none] 75)))
  have HF := Lib.hid hf
  have HA := Lib.hid (as_fault g w.heap.size (w.alloc (.cells #[.pointer none] 75)) a HE.out (Blk.new _ _ _))
  clear he hf HE
  go_enter Tryd.func36, Tryd.ntmps36
  go_wp2_with fail
  refine HA.out.mono ?_
  rintro e w2 ⟨rfl, hk, hb⟩
  have HB2 : Hid (Below w.heap.size w w2) := Lib.hid (((Below.refl w.heap.size w).alloc (Nat.le_refl _) _).trans hb)
  have hf2 : FaultB w2 g (a K) n := HF.out.below HB2.out HF.out.lt
  have c0 := hk.cell 0
  have f1 := hf2.cell 2
  clear hk hb hf2
  go_wp2_with fail
  go_ret2
  exact ⟨rfl, HB2.out⟩

def numR (k K : Nat) : Int := if k ≤ K then -1 else (K : Int) + 1

set_option maxRecDepth 100000 in
set_option maxHeartbeats 1500000 in
theorem code_any (t : TypeId) (v : Value) (K : Nat) (hK : K < 11) (a : Nat → Addr) (w : World) (he : Errs w a)
    (hI : ∀ wx, Below w.heap.size w wx → ∀ k, k < 11 → Calls Tryd.prog 38 #[.iface t v, .iface 142 (.pointer (some (a k)))] wx fun e w' => e = .returned (.bool (decide (k = K))) ∧ w' = wx) :
    Calls Tryd.prog 26 #[.iface t v] w fun e w' => e = .returned (.int .i64 ((K : Int) + 1)) ∧ Below w.heap.size w w' := by
  have s0 : w.cell? ⟨2, 0, none⟩ = _ := he.sen 0 (by decide)
  have s1 : w.cell? ⟨0, 0, none⟩ = _ := he.sen 1 (by decide)
  have s2 : w.cell? ⟨3, 0, none⟩ = _ := he.sen 2 (by decide)
  have s3 : w.cell? ⟨4, 0, none⟩ = _ := he.sen 3 (by decide)
  have s4 : w.cell? ⟨5, 0, none⟩ = _ := he.sen 4 (by decide)
  have s5 : w.cell? ⟨6, 0, none⟩ = _ := he.sen 5 (by decide)
  have s6 : w.cell? ⟨7, 0, none⟩ = _ := he.sen 6 (by decide)
  have s7 : w.cell? ⟨8, 0, none⟩ = _ := he.sen 7 (by decide)
  have s8 : w.cell? ⟨9, 0, none⟩ = _ := he.sen 8 (by decide)
  have s9 : w.cell? ⟨10, 0, none⟩ = _ := he.sen 9 (by decide)
  have s10 : w.cell? ⟨11, 0, none⟩ = _ := he.sen 10 (by decide)
  have HI := Lib.hid hI
  clear hI he
  go_enter Tryd.func26, Tryd.ntmps26
  go_upto_region 4 with fail
  have HK := Lib.hid (Blk.new w 87 #[.iface 142 (.pointer (some (a 0))), .iface 142 (.pointer (some (a 1))), .iface 142 (.pointer (some (a 2))), .iface 142 (.pointer (some (a 3))), .iface 142 (.pointer (some (a 4))), .iface 142 (.pointer (some (a 5))), .iface 142 (.pointer (some (a 6))), .iface 142 (.pointer (some (a 7))), .iface 142 (.pointer (some (a 8))), .iface 142 (.pointer (some (a 9))), .iface 142 (.pointer (some (a 10)))])
  have HB : Hid (Below w.heap.size w (w.alloc (.cells #[.iface 142 (.pointer (some (a 0))), .iface 142 (.pointer (some (a 1))), .iface 142 (.pointer (some (a 2))), .iface 142 (.pointer (some (a 3))), .iface 142 (.pointer (some (a 4))), .iface 142 (.pointer (some (a 5))), .iface 142 (.pointer (some (a 6))), .iface 142 (.pointer (some (a 7))), .iface 142 (.pointer (some (a 8))), .iface 142 (.pointer (some (a 9))), .iface 142 (.pointer (some (a 10)))] 87))) := Lib.hid ((Below.refl w.heap.size w).alloc (Nat.le_refl _) _)
  clear s0 s1 s2 s3 s4 s5 s6 s7 s8 s9 s10
  have HC : ∀ k, k < 11 → (w.alloc (.cells #[.iface 142 (.pointer (some (a 0))), .iface 142 (.pointer (some (a 1))), .iface 142 (.pointer (some (a 2))), .iface 142 (.pointer (some (a 3))), .iface 142 (.pointer (some (a 4))), .iface 142 (.pointer (some (a 5))), .iface 142 (.pointer (some (a 6))), .iface 142 (.pointer (some (a 7))), .iface 142 (.pointer (some (a 8))), .iface 142 (.pointer (some (a 9))), .iface 142 (.pointer (some (a 10)))] 87)).cell? ⟨w.heap.size, k, none⟩ = some (.iface 142 (.pointer (some (a k)))) := by
    intro k hk
    rw [HK.out.cell k]
    have : k = 0 ∨ k = 1 ∨ k = 2 ∨ k = 3 ∨ k = 4 ∨ k = 5 ∨ k = 6 ∨ k = 7 ∨ k = 8 ∨ k = 9 ∨ k = 10 := by omega
    rcases this with rfl | rfl | rfl | rfl | rfl | rfl | rfl | rfl | rfl | rfl | rfl <;> rfl
  have HC := Lib.hid HC
  clear HK
  generalize w.alloc (.cells #[.iface 142 (.pointer (some (a 0))), .iface 142 (.pointer (some (a 1))), .iface 142 (.pointer (some (a 2))), .iface 142 (.pointer (some (a 3))), .iface 142 (.pointer (some (a 4))), .iface 142 (.pointer (some (a 5))), .iface 142 (.pointer (some (a 6))), .iface 142 (.pointer (some (a 7))), .iface 142 (.pointer (some (a 8))), .iface 142 (.pointer (some (a 9))), .iface 142 (.pointer (some (a 10)))] 87) = w1 at *
  generalize hgN : w.heap.size = gN at *
  go_wp2_with fail
  go_loopw [2, 4, 5] (fun _ v4 v5 wr => ∃ k : Nat, v5 = .int .i64 k ∧ k ≤ 11 ∧ v4 = .int .i64 (numR k K) ∧ wr = w1) (fun _ _ v5 _ => 11 - (intOf v5).toNat)
  case atStart => exact ⟨0, rfl, by omega, by unfold numR; rw [if_pos (Nat.zero_le _)], rfl⟩
  case round =>
    obtain ⟨k, rfl, hk, rfl, rfl⟩ := hrel
    by_cases hlt : k < 11
    · have ck := HC.out k hlt
      have hlt' : (k : Int) < 11 := by omega
      have k0 : 0 ≤ (k : Int) := by omega
      have IS := Lib.hid (HI.out wr HB.out k hlt)
      go_wp2_with fail
      refine IS.out.mono ?_
      rintro e w' ⟨rfl, hw⟩
      have hw := hw.symm
      subst hw
      by_cases hq : k = K
      · have hn : numR k K = -1 := by unfold numR; rw [if_pos (by omega)]
        rw [hn, decide_eq_true hq]
        have HQ := Lib.hid hq
        clear hq hn
        go_wp2_with fail
        go_roundw
        case rel => exact ⟨k + 1, by go_num, by omega, by unfold numR; rw [if_neg (by have := HQ.out; omega)]; have := HQ.out; go_num, trivial⟩
        case measure => simp [intOf]; omega
      · rw [decide_eq_false hq]
        have HN : Hid (numR (k + 1) K = numR k K) := Lib.hid (by unfold numR; by_cases q : k ≤ K; rw [if_pos q, if_pos (by omega)]; rw [if_neg q, if_neg (by omega)])
        clear hq
        go_wp2_with fail
        go_roundw
        case rel => exact ⟨k + 1, by go_num, by omega, by rw [HN.out], trivial⟩
        case measure => simp [intOf]; omega
    · obtain rfl : k = 11 := by omega
      have hn : numR 11 K = (K : Int) + 1 := by unfold numR; rw [if_neg (by omega)]
      rw [hn]
      clear hn
      go_wp2_with fail
      go_ret
      exact ⟨rfl, by rw [hgN]; exact HB.out⟩

theorem is_arg_any (a : Nat → Addr) (w : World) (he : Errs w a) : ∀ wx, Below w.heap.size w wx → ∀ k, k < 11 → Calls Tryd.prog 38 #[.iface 142 (.pointer (some (a 0))), .iface 142 (.pointer (some (a k)))] wx fun e w' => e = .returned (.bool (decide (k = 0))) ∧ w' = wx := by
  intro wx hb k hk
  have h := he.below hb
  by_cases q : k = 0
  · subst q; exact is_same (a 0) wx
  · rw [decide_eq_false q]
    obtain ⟨c0, t0, e0⟩ := h.blk 0 (by decide)
    obtain ⟨ck, tk, ek⟩ := h.blk k hk
    exact is_other (a 0) (a k) c0 ck t0 tk wx (h.ne 0 k (by decide) hk (Ne.symm q)) e0 ek
theorem is_fault_any (g : Nat) (n : Int) (a : Nat → Addr) (w : World) (K : Nat) (hK : K < 11) (he : Errs w a) (hf : FaultB w g (a K) n) : ∀ wx, Below w.heap.size w wx → ∀ k, k < 11 → Calls Tryd.prog 38 #[.iface 75 (.pointer (some ⟨g, 0, none⟩)), .iface 142 (.pointer (some (a k)))] wx fun e w' => e = .returned (.bool (decide (k = K))) ∧ w' = wx := by
  intro wx hb k hk
  have h := he.below hb
  have hf2 : FaultB wx g (a K) n := Blk.below hf hb (Blk.lt hf)
  by_cases q : k = K
  · rw [decide_eq_true q]; subst q; exact is_fault_same g _ wx (hf2.cell 0)
  · rw [decide_eq_false q]
    obtain ⟨c2, t2, e2⟩ := h.blk K hK
    obtain ⟨ck, tk, ek⟩ := h.blk k hk
    exact is_fault_other g (a k) (a K) c2 ck t2 tk wx (hf2.cell 0) (h.ne K k hK hk (Ne.symm q)) e2 ek

set_option maxRecDepth 100000 in
theorem is1_arg (a : Nat → Addr) (w : World) (he : Errs w a) :
    Calls Tryd.prog 53 #[.iface 142 (.pointer (some (a 0))), .int .i64 1] w fun e w' => e = .returned (.bool true) ∧ Below w.heap.size w w' := by
  have HC := Lib.hid (code_any 142 (.pointer (some (a 0))) 0 (by decide) a w he (is_arg_any a w he))
  go_enter Tryd.func53, Tryd.ntmps53
  go_wp2_with fail
  refine HC.out.mono ?_
  rintro e w2 ⟨rfl, hb⟩
  have HB := Lib.hid hb
  clear hb
  go_wp2_with fail
  go_ret
  exact ⟨rfl, HB.out⟩

set_option maxRecDepth 100000 in
theorem isAt_nil (n : Int) (w : World) :
    Calls Tryd.prog 24 #[.nilIface, .int .i64 0, .int .i64 n] w fun e w' => e = .returned (.bool true) ∧ w' = w := by
  go_enter Tryd.func24, Tryd.ntmps24
  go_wp2_with fail
  go_ret
  exact ⟨rfl, rfl⟩

set_option maxRecDepth 100000 in
theorem code_fault (g : Nat) (n : Int) (a : Nat → Addr) (w : World) (K : Nat) (hK : K < 11) (he : Errs w a) (hf : FaultB w g (a K) n) :
    Calls Tryd.prog 26 #[.iface 75 (.pointer (some ⟨g, 0, none⟩))] w fun e w' => e = .returned (.int .i64 ((K : Int) + 1)) ∧ Below w.heap.size w w' :=
  code_any 75 (.pointer (some ⟨g, 0, none⟩)) K hK a w he (is_fault_any g n a w K hK he hf)

set_option maxRecDepth 100000 in
set_option maxHeartbeats 1500000 in
theorem isAt_fault (g : Nat) (n : Int) (a : Nat → Addr) (w : World) (K : Nat) (hK : K < 11) (he : Errs w a) (hf : FaultB w g (a K) n) (m : Int) :
    Calls Tryd.prog 24 #[.iface 75 (.pointer (some ⟨g, 0, none⟩)), .int .i64 ((K : Int) + 1), .int .i64 m] w fun e w' => e = .returned (.bool (n == m)) ∧ Below w.heap.size w w' := by
  have HC := Lib.hid (code_fault g n a w K hK he hf)
  have HA := Lib.hid (fun wx (hb : Below w.heap.size w wx) => at_fault g n a wx K hK (he.below hb) (Blk.below hf hb (Blk.lt hf)))
  have HP := Lib.hid (fun wx (hb : Below w.heap.size w wx) => path_fault g n a wx K hK (he.below hb) (Blk.below hf hb (Blk.lt hf)))
  clear he hf
  go_enter Tryd.func24, Tryd.ntmps24
  go_wp2_with fail
  refine HC.out.mono ?_
  rintro e w1 ⟨rfl, hb1⟩
  have HB1 := Lib.hid hb1
  clear hb1 HC
  go_wp2_with fail
  refine (HA.out w1 HB1.out).mono ?_
  rintro e w2 ⟨rfl, hb2⟩
  have HB2 : Hid (Below w.heap.size w w2) := Lib.hid (HB1.out.trans (hb2.mono HB1.out.size))
  clear hb2 HA
  go_wp2_with fail
  refine (HP.out w2 HB2.out).mono ?_
  rintro e w3 ⟨rfl, hb3⟩
  have HB3 : Hid (Below w.heap.size w w3) := Lib.hid (HB2.out.trans (hb3.mono HB2.out.size))
  clear hb3 HP
  by_cases hq : n = m
  · have hq' : (n == m) = true := by rw [beq_iff_eq]; exact hq
    have HQ := Lib.hid hq'
    clear hq
    go_wp2_with fail
    go_ret
    exact ⟨by rw [HQ.out] <;> rfl, HB3.out⟩
  · have hq' : (n == m) = false := by rw [beq_eq_false_iff_ne]; exact hq
    have HQ := Lib.hid hq'
    clear hq
    go_wp2_with fail
    go_ret
    exact ⟨by rw [HQ.out] <;> rfl, HB3.out⟩
end Go.Proofs.YtjfeebbhkolmoaaDoor
