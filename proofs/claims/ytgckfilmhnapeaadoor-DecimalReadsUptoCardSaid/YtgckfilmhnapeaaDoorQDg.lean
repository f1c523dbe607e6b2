/- The program's quot: Digits. -/
import Derived.Test.YtgckfilmhnapeaaDoorStrB
import Derived.Deep.DeepCutAuto
namespace Go.Proofs.YtgckfilmhnapeaaDoor
open Go.RowKit
set_option linter.unusedVariables false

theorem info_u8 : (Tryd.prog.info? 5).map (fun i => (i.zero, i.size, i.bytes)) = some (some (.int .u8 0), 1, 1) := by kernel_rfl
/-- a cell that holds a number's slice -/
def OneS (w : World) (b X : Nat) : Prop := ∃ A c, w.heap[b]? = some (.cells #[.slice A (ll X) c] 47 (0, 0)) ∧ CanC w A c X
theorem canC_other {w : World} {b N c : Nat} {A A0 : Option Addr} {n0 c0 : Nat} {t : TypeId} (hb : w.heap[b]? = some (.cells #[.slice A0 n0 c0] t (0, 0))) (h : CanC w A c N) (u : Value) : CanC (w.setCell ⟨b, 0, none⟩ u) A c N := by
  refine ⟨fun i hi => ?_, h.le, h.max⟩
  obtain ⟨g, off, h1, h2, h3⟩ := h.can i hi
  refine ⟨g, off, h1, by simpa using h2, ?_⟩
  have hne : g ≠ b := by
    rintro rfl
    have hv := vals_get .u32 (dig 4294967296 N) i (by rw [vals_length] at hi; exact hi)
    rw [hv] at h3
    simp only [World.cell?, hb] at h3
    simp only [Option.isSome_none, Bool.false_eq_true, if_false] at h3
    rcases Nat.eq_zero_or_pos (off + i) with h0 | h0
    · rw [h0] at h3; simp at h3
    · rw [Array.getElem?_eq_none (by simp; omega)] at h3; cases h3
  rw [World.cell?_setCell_other w ⟨b, 0, none⟩ ⟨g, off + i, none⟩ u (by intro e; injection e with e1; exact hne e1.symm)]
  exact h3
/-- the same, apart from a row of the call's own -/
def OneX (w : World) (b X : Nat) (v : Value) : Prop :=
  ∃ A c, w.heap[b]? = some (.cells #[.slice A (ll X) c] 47 (0, 0)) ∧ CanC w A c X ∧ (X ≠ 0 → ∀ p : Addr, A = some p → v.ownBlock ≠ some p.block) ∧ v.ownBlock ≠ some b
def TakePost (w : World) (b X : Nat) (e : Ending) (w' : World) : Prop :=
  e = .returned (.int .u32 ((X % 1000000000 : Nat) : Int)) ∧ (∃ A c, w'.heap[b]? = some (.cells #[.slice A (ll (X / 1000000000)) c] 47 (0, 0)) ∧ CanC w' A c (X / 1000000000) ∧ (∀ p : Addr, A = some p → w.heap.size ≤ p.block)) ∧ w.grownBy w' (some b)
theorem OneX.append {w w' : World} {b X : Nat} {v v' : Value} (h : OneX w b X v) (hg : w.grownBy w' v.ownBlock) (hv : v'.ownBlock = v.ownBlock ∨ ∃ k, v'.ownBlock = some k ∧ w.heap.size ≤ k) : OneX w' b X v' := by
  obtain ⟨A, c, h1, h2, h3, h4⟩ := h
  have hbl : b < w.heap.size := (Array.getElem?_eq_some_iff.1 h1).1
  refine ⟨A, c, (hg.block b hbl (fun e => h4 e.symm)).trans h1, ⟨fun i hi => ?_, h2.le, h2.max⟩, fun hX p hp => ?_, ?_⟩
  · have hX : X ≠ 0 := by
      rintro rfl
      rw [dig_zero] at hi; simp [vals] at hi
    obtain ⟨g, off, e1, e2, e3⟩ := h2.can i hi
    have hne := h3 hX _ e1
    refine ⟨g, off, e1, Nat.lt_of_lt_of_le e2 hg.size, ?_⟩
    have hv := vals_get .u32 (dig 4294967296 X) i (by rw [vals_length] at hi; exact hi)
    rw [hv] at e3 ⊢
    exact hg.cell e3 (fun e => hne e.symm)
  · rcases hv with hv | ⟨k, hv, hk⟩
    · rw [hv]; exact h3 hX p hp
    · rw [hv]
      intro e
      injection e with e
      have hpos : 0 < (dig 4294967296 X).length := ll_nz X hX
      obtain ⟨g, off, e1, e2, e3⟩ := h2.can 0 (by rw [vals_length]; exact hpos)
      rw [hp] at e1
      injection e1 with e1
      subst e1
      simp at e
      omega
  · rcases hv with hv | ⟨k, hv, hk⟩
    · rw [hv]; exact h4
    · rw [hv]; intro e; injection e with e; omega
set_option maxRecDepth 100000 in
theorem take_any (w : World) (b X : Nat) (h : OneS w b X) (hl : ll X ≤ 1048576) :
    Calls Tryd.prog 108 #[.pointer (some ⟨b, 0, none⟩)] w (TakePost w b X) := by
  obtain ⟨A, c, hb, hc⟩ := h
  have hcell : w.cell? ⟨b, 0, none⟩ = some (.slice A (ll X) c) := by simp [World.cell?, hb]
  have hbl : b < w.heap.size := (Array.getElem?_eq_some_iff.1 hb).1
  have HBK := Lib.hid hb
  have HS : Hid (Calls Tryd.prog 94 #[.slice A (ll X) c, .int .u32 1000000000] w (SmallPost w X 1000000000)) := Lib.hid (small_can A X c 1000000000 w hc.can hl (by decide) (by decide))
  clear hc hb
  go_enter Tryd.func108, Tryd.ntmps108
  go_wp2_with fail
  refine HS.out.mono ?_
  rintro e w1 ⟨A1, c1, rfl, hca, hla, hma, hba, hnew⟩
  have C1 := Lib.hid (CanC.mk hca hla hma)
  have hb1 : w1.heap[b]? = some (.cells #[.slice A (ll X) c] 47 (0, 0)) := (hba.block b hbl).trans HBK.out
  have HB1 := Lib.hid hb1
  have hcell1 : w1.cell? ⟨b, 0, none⟩ = some (.slice A (ll X) c) := by simp [World.cell?, hb1]
  have hfz1 : w1.frozen? ⟨b, 0, none⟩ = false := by simp [World.frozen?, hb1]
  have HG := Lib.hid (grown_of_below hba)
  have HNEW := Lib.hid hnew
  clear hca hla hma hba hb1 hnew
  go_wp2_with fail
  go_ret
  exact ⟨rfl, ⟨A1, c1, heap_setCell_same w1 b 0 _ _ _ HB1.out, canC_other HB1.out C1.out _, HNEW.out⟩, (HG.out.but (some b)).trans (by
    have := grown_set (World.grownBy.refl w1 (some b)) 0 (.slice A1 (ll (X / 1000000000)) c1)
    exact this)⟩
/-- the digits of a number as bytes, so many, the lowest first -/
def dgs (N j : Nat) : List Nat := (digs 10 N j).map (48 + ·)
theorem dgs_succ (N j : Nat) : dgs N (j + 1) = dgs N j ++ [48 + N / 10 ^ j % 10] := by unfold dgs; rw [digs_succ, List.map_append]; rfl
theorem dgs_len (N j : Nat) : (dgs N j).length = j := by unfold dgs; rw [List.length_map, digs_len]
theorem dgs_lt (N j : Nat) : ∀ x ∈ dgs N j, x < 256 := by
  intro x hx
  unfold dgs at hx
  obtain ⟨y, hy, rfl⟩ := List.mem_map.1 hx
  have := digs_lt 10 N j (by decide) y hy
  omega
/-- all digits of a number, the highest first; of 0 there are none -/
def dtext (N : Nat) : List Nat := ((dig 10 N).map (48 + ·)).reverse
theorem digs_dig (N j : Nat) (h0 : N / 10 ^ j = 0) (h1 : j = 0 ∨ N / 10 ^ (j - 1) ≠ 0) : digs 10 N j = dig 10 N := by
  have hlt : N < 10 ^ j := by
    rcases Nat.lt_or_ge N (10 ^ j) with g | g
    · exact g
    · have := Nat.div_pos g (Nat.pow_pos (n := j) (show 0 < 10 by decide)); omega
  have hv : bval 10 (digs 10 N j) = N := digs_all _ _ _ hlt
  have ht := trm_dig (b := 10) (by decide) (digs 10 N j) (digs_lt 10 N j (by decide))
  rw [hv] at ht
  rw [← ht]
  rcases h1 with rfl | h1
  · rfl
  · obtain ⟨k, rfl⟩ : ∃ k, j = k + 1 := ⟨j - 1, by
      have : j ≠ 0 := by rintro rfl; exact h1 (by simpa using h0)
      omega⟩
    rw [Nat.add_sub_cancel] at h1
    rw [digs_succ, trm_snoc_pos]
    have : N / 10 ^ k < 10 := by
      rw [Nat.div_lt_iff_lt_mul (Nat.pow_pos (by decide)), Nat.mul_comm, ← Nat.pow_succ]; exact hlt
    rw [Nat.mod_eq_of_lt this]
    exact h1
def digitsS (N : Nat) : ByteArray := if N = 0 then ⟨#[48]⟩ else strOf (dtext N)
theorem dgs_rev (N j : Nat) (h0 : N / 10 ^ j = 0) (h1 : j = 0 ∨ N / 10 ^ (j - 1) ≠ 0) : (dgs N j).reverse = dtext N := by
  unfold dgs dtext
  rw [digs_dig N j h0 h1]
def slLen : Value → Nat
  | .slice _ n _ => n
  | _ => 0
/-- how many digits at most: for the measure -/
def Enough (N J : Nat) : Prop := N / 10 ^ J = 0
theorem enough_lt (N J j : Nat) (h : Enough N J) (hj : N / 10 ^ j ≠ 0) : j < J := by
  rcases Nat.lt_or_ge j J with g | g
  · exact g
  · exfalso
    apply hj
    unfold Enough at h
    obtain ⟨d, rfl⟩ : ∃ d, j = J + d := ⟨j - J, by omega⟩
    rw [Nat.pow_add, ← Nat.div_div_eq_div_mul, h, Nat.zero_div]
def DgRel (w : World) (b N : Nat) (v5 : Value) (wr : World) : Prop :=
  ∃ j : Nat, OneX wr b (N / 10 ^ j) v5 ∧ wr.ownsRow w.heap.size 5 1 v5 j (vals .u8 (dgs N j)) ∧ (j = 0 ∨ N / 10 ^ (j - 1) ≠ 0) ∧ Below w.heap.size w wr
def DgIn (w : World) (b N j n0 R2 : Nat) (v5 v6 v7 : Value) (wr : World) : Prop :=
  ∃ k : Nat, k ≤ 9 ∧ v7 = .int .i64 k ∧ v6 = .int .u32 (n0 / 10 ^ k : Nat) ∧ OneX wr b R2 v5 ∧ wr.ownsRow w.heap.size 5 1 v5 (j + k) (vals .u8 (dgs N (j + k))) ∧ (k = 0 ∨ N / 10 ^ (j + k - 1) ≠ 0) ∧ Below w.heap.size w wr
/-- one digit of nine, and when they end -/
theorem nine_digit (R k : Nat) (hk : k < 9) : R % 1000000000 / 10 ^ k % 10 = R / 10 ^ k % 10 := by
  have : k = 0 ∨ k = 1 ∨ k = 2 ∨ k = 3 ∨ k = 4 ∨ k = 5 ∨ k = 6 ∨ k = 7 ∨ k = 8 := by omega
  rcases this with rfl | rfl | rfl | rfl | rfl | rfl | rfl | rfl | rfl <;> simp only [Nat.reducePow] <;> omega
theorem nine_rest (R k : Nat) (hk : k ≤ 9) : R / 10 ^ k = 0 ↔ (R % 1000000000 / 10 ^ k = 0 ∧ R / 1000000000 = 0) ∨ (k = 9 ∧ R / 1000000000 = 0) := by
  have : k = 0 ∨ k = 1 ∨ k = 2 ∨ k = 3 ∨ k = 4 ∨ k = 5 ∨ k = 6 ∨ k = 7 ∨ k = 8 ∨ k = 9 := by omega
  rcases this with rfl | rfl | rfl | rfl | rfl | rfl | rfl | rfl | rfl | rfl <;> simp only [Nat.reducePow] <;> omega
set_option maxRecDepth 100000 in
set_option maxHeartbeats 3000000 in
theorem pdigits_any (A : Option Addr) (N c J : Nat) (w : World) (hA : CanC w A c N) (hl : ll N ≤ 1048576) (hJ : Enough N J) (hJ2 : J ≤ 100000000) :
    Calls Tryd.prog 66 #[.slice A (ll N) c] w fun e w' => e = .returned (.string (digitsS N)) ∧ Below w.heap.size w w' := by
  obtain ⟨i0, hi, hz0, hz1, hz2⟩ := info_parts info_u8
  have H1 := Lib.hid (norm_can A N c w hA.can hA.le hA.max hl)
  have HJ := Lib.hid hJ
  have HLL := Lib.hid (fun j => ll_mono (Nat.div_le_self N (10 ^ j)))
  clear hA hJ
  go_enter Tryd.func66, Tryd.ntmps66
  go_wp2_with fail
  refine H1.out.mono ?_
  rintro e w1 ⟨A1, c1, rfl, hc1, hl1, hm1, hb1⟩
  have C1 := Lib.hid (CanC.mk hc1 hl1 hm1)
  have B1 := Lib.hid hb1
  clear hc1 hl1 hm1 hb1 H1
  go_wp2_with fail
  have HX0 : Hid (OneX (w1.alloc (.cells #[.slice A1 (ll N) c1] 47)) w1.heap.size N (.slice none 0 0)) := Lib.hid ⟨A1, c1, heap_alloc_new _ _, C1.out.below ((Below.refl _ _).alloc (Nat.le_refl _) _), fun _ p _ => by simp [Value.ownBlock], by simp [Value.ownBlock]⟩
  have HB0 : Hid (Below w.heap.size w (w1.alloc (.cells #[.slice A1 (ll N) c1] 47))) := Lib.hid (B1.out.alloc B1.out.size _)
  have hbw : w.heap.size ≤ w1.heap.size := B1.out.size
  generalize w1.alloc (.cells #[.slice A1 (ll N) c1] 47) = w2 at *
  generalize w1.heap.size = b at *
  clear C1 B1
  go_loopw [5] (fun v5 wr => DgRel w b N v5 wr) (fun v5 _ => J + 1 - slLen v5)
  case atStart => exact ⟨0, by rw [Nat.pow_zero, Nat.div_one]; exact HX0.out, ⟨by simp [vals, dgs, digs], .inl ⟨rfl, rfl⟩⟩, .inl rfl, HB0.out⟩
  case round =>
    obtain ⟨j, hx, hown, hj0, hbel⟩ := hrel
    have HX := Lib.hid hx
    obtain ⟨A2, c2, hheap, hcan, hsep, hob⟩ := hx
    have HO := Lib.hid hown
    have HJ0 := Lib.hid hj0
    have HB := Lib.hid hbel
    obtain ⟨A5, c5, rfl, h5c, h5m, -, -⟩ := own_rd hown
    unfold maxLen at h5m
    have hcell : wr.cell? ⟨b, 0, none⟩ = some (.slice A2 (ll (N / 10 ^ j)) c2) := by simp [World.cell?, hheap]
    clear hheap hcan hsep hob hown hj0 hbel
    by_cases hR : N / 10 ^ j = 0
    · have hz : ll (N / 10 ^ j) = 0 := by rw [hR, ll_zero']
      rw [hz] at hcell
      have HREV := Lib.hid (dgs_rev N j hR HJ0.out)
      by_cases hjz : j = 0
      · subst hjz
        rw [Nat.pow_zero, Nat.div_one] at hR
        subst hR
        go_wp2_with fail
        go_ret
        exact ⟨rfl, HB.out⟩
      · have hjI : ((j : Int) == 0) = false := by rw [beq_eq_false_iff_ne]; omega
        have hN0 : N ≠ 0 := by rintro rfl; have := HJ0.out; rw [Nat.zero_div] at this; rcases this with h | h; exact hjz h; exact h rfl
        have HDS : Hid (digitsS N = strOf (dtext N)) := Lib.hid (if_neg hN0)
        obtain ⟨g5, hA5⟩ : ∃ g, A5 = some ⟨g, 0, none⟩ ∧ w.heap.size ≤ g := by
          rcases HO.out.2 with ⟨h1, h2⟩ | ⟨g, cap, cur, h1, hb, _⟩
          · omega
          · injection h1 with e1 e2 e3
            exact ⟨g, e1, hb⟩
        obtain ⟨rfl, hg5⟩ := hA5
        have HRV := Lib.hid (reverse_any HO.out (dgs_len N j) (by omega))
        rw [HREV.out] at HRV
        have hlt : ∀ x ∈ dtext N, x < 256 := by rw [← HREV.out]; intro x hx; exact dgs_lt N j x (List.mem_reverse.1 hx)
        have hln : (dtext N).length = j := by rw [← HREV.out, List.length_reverse, dgs_len]
        have HLT := Lib.hid hlt
        have HLN := Lib.hid hln
        clear hlt hln HREV hR hz hN0
        go_wp2_with fail
        refine HRV.out.mono ?_
        rintro e w6 ⟨rfl, ho6, hg6⟩
        have HCV := row_string HLT.out HLN.out ho6 (by omega)
        have HB6 := Lib.hid (HB.out.grown hg6 HB.out.size (fun k hk => by injection hk with hk; omega))
        clear ho6 hg6
        go_wp2_with fail
        go_ret
        exact ⟨by rw [HDS.out]; rfl, HB6.out⟩
    · have hp := ll_nz _ hR
      have hpI : (0 : Int) < (ll (N / 10 ^ j) : Int) := by omega
      have HT := Lib.hid (take_any wr b (N / 10 ^ j) (by obtain ⟨A3, c3, h1, h2, -, -⟩ := HX.out; exact ⟨A3, c3, h1, h2⟩) (by have := HLL.out j; omega))
      unfold TakePost at HT
      obtain ⟨wo, rfl⟩ : ∃ wo : World, wo = wr := ⟨_, rfl⟩
      go_wp2_with fail
      refine HT.out.mono ?_
      rintro e w3 ⟨rfl, ⟨A3, c3, hh3, hcn3, hnew3⟩, hg3⟩
      have hobb : (Value.slice A5 j c5).ownBlock ≠ some b := by obtain ⟨_, _, _, _, _, h4⟩ := HX.out; exact h4
      have hjlt := enough_lt N J j HJ.out hR
      have HX3 : Hid (OneX w3 b (N / 10 ^ j / 1000000000) (.slice A5 j c5)) := Lib.hid ⟨A3, c3, hh3, hcn3, fun _ p hp e => by
        have h1 := hnew3 p hp
        have h2 := (HO.out.lt p.block e).2
        omega, hobb⟩
      have HO3 : Hid (w3.ownsRow w.heap.size 5 1 (.slice A5 j c5) j (vals .u8 (dgs N j))) := Lib.hid (HO.out.kept hg3 (Or.inr hobb))
      have HB3 := Lib.hid (HB.out.grown hg3 HB.out.size (fun k hk => by injection hk with hk; omega))
      have hRk : ∀ k, N / 10 ^ (j + k) = N / 10 ^ j / 10 ^ k := fun k => by rw [Nat.pow_add, Nat.div_div_eq_div_mul]
      have HRK := Lib.hid hRk
      have HRN := Lib.hid hR
      clear hh3 hcn3 hnew3 hg3 hobb HX HO HB HT hRk hR hp hpI hcell
      obtain ⟨R, hRR⟩ : ∃ R, N / 10 ^ j = R := ⟨_, rfl⟩
      rw [hRR] at HX3 HRK HRN ⊢
      have HRR := Lib.hid hRR
      have hn0 : R % 1000000000 < 1000000000 := Nat.mod_lt _ (by decide)
      have HN9 := Lib.hid (fun k hk => nine_digit R k hk)
      have HR9 := Lib.hid (fun k hk => nine_rest R k hk)
      have hR2l := ll_mono (Nat.le_trans (Nat.div_le_self R 1000000000) (by rw [← hRR]; exact Nat.div_le_self N (10 ^ j)))
      obtain ⟨n0, hn0e⟩ : ∃ n0, R % 1000000000 = n0 := ⟨_, rfl⟩
      obtain ⟨R2, hR2e⟩ : ∃ R2, R / 1000000000 = R2 := ⟨_, rfl⟩
      rw [hn0e] at hn0 HN9 HR9 ⊢
      rw [hR2e] at HX3 HR9 hR2l
      have HR2E := Lib.hid hR2e
      clear hRR hn0e hR2e
      go_wp2_with fail
      obtain ⟨wq, rfl⟩ : ∃ wq : World, wq = w3 := ⟨_, rfl⟩
      go_loopw [5, 6, 7] (fun v5 v6 v7 wr => DgIn w b N j n0 R2 v5 v6 v7 wr) (fun _ _ v7 _ => 9 - (RowKit.intOf v7).toNat)
      case atStart => exact ⟨0, Nat.zero_le _, rfl, by rw [Nat.pow_zero, Nat.div_one], HX3.out, HO3.out, .inl rfl, HB3.out⟩
      case round =>
        obtain ⟨k, hk9, rfl, rfl, hx, hown, hk0, hbel⟩ := hrel
        have HX4 := Lib.hid hx
        obtain ⟨A4, c4, hh4, -, -, -⟩ := hx
        have hcell : wr.cell? ⟨b, 0, none⟩ = some (.slice A4 (ll R2) c4) := by simp [World.cell?, hh4]
        have HO4 := Lib.hid hown
        have HB4 := Lib.hid hbel
        have HK0 := Lib.hid hk0
        clear hh4 hown hbel hk0
        have hnk : n0 / 10 ^ k < 4294967296 := Nat.lt_of_le_of_lt (Nat.div_le_self _ _) (by omega)
        by_cases hdone : k = 9 ∨ (n0 / 10 ^ k = 0 ∧ R2 = 0)
        · have hk1 : 1 ≤ k := by
            rcases Nat.eq_zero_or_pos k with h | h
            · subst h
              exfalso
              rcases hdone with h | ⟨h1, h2⟩
              · omega
              · have h3 := (HR9.out 0 (by omega)).2 (.inl ⟨h1, h2⟩)
                rw [Nat.pow_zero, Nat.div_one] at h3
                exact HRN.out h3
            · exact h
          have HE : Hid (N / 10 ^ (j + k) = R2) := Lib.hid (by
            rw [HRK.out k]
            rcases hdone with h | ⟨h1, h2⟩
            · subst h
              exact HR2E.out
            · rw [h2]
              exact (HR9.out k (by omega)).2 (.inl ⟨h1, h2⟩))
          have HX5 : Hid (OneX wr b (N / 10 ^ (j + k)) _) := Lib.hid (by rw [HE.out]; exact HX4.out)
          have HK1 : Hid (j + k = 0 ∨ N / 10 ^ (j + k - 1) ≠ 0) := Lib.hid (.inr (by rcases HK0.out with h | h; omega; exact h))
          obtain ⟨A6, c6, rfl, -, -, -, -⟩ := own_rd HO4.out
          by_cases h9 : k = 9
          · subst h9
            clear hdone
            go_wp2_with fail
            go_roundw
            case rel => exact ⟨j + 9, HX5.out, HO4.out, HK1.out, HB4.out⟩
            case measure => simp [slLen]; omega
          · obtain ⟨d1, d2⟩ : n0 / 10 ^ k = 0 ∧ R2 = 0 := by
              rcases hdone with h | h
              · exact absurd h h9
              · exact h
            have hk9I : (k : Int) < 9 := by omega
            rw [d2, ll_zero'] at hcell
            have d1I : ((n0 / 10 ^ k : Nat) : Int) = 0 := by rw [d1]; rfl
            clear hdone d2
            generalize n0 / 10 ^ k = y at *
            subst d1
            go_wp2_with fail
            go_roundw
            case rel => exact ⟨j + k, HX5.out, HO4.out, HK1.out, HB4.out⟩
            case measure => simp [slLen]; omega
        · have hk9' : k < 9 := by omega
          have hk9I : (k : Int) < 9 := by omega
          have hgo : n0 / 10 ^ k ≠ 0 ∨ R2 ≠ 0 := by
            by_cases h : n0 / 10 ^ k = 0
            · right; intro h2; exact hdone (.inr ⟨h, h2⟩)
            · exact .inl h
          have HNZ : Hid (k + 1 = 0 ∨ N / 10 ^ (j + (k + 1) - 1) ≠ 0) := Lib.hid (.inr (by
            rw [show j + (k + 1) - 1 = j + k by omega, HRK.out k]
            intro h
            rcases (HR9.out k hk9).1 h with ⟨h1, h2⟩ | ⟨h1, h2⟩
            · exact hdone (.inr ⟨h1, h2⟩)
            · omega))
          have HDG : Hid (48 + n0 / 10 ^ k % 10 = 48 + N / 10 ^ (j + k) % 10) := Lib.hid (by rw [HN9.out k hk9', HRK.out k])
          have HPS : Hid (n0 / 10 ^ k / 10 = n0 / 10 ^ (k + 1)) := Lib.hid (by rw [Nat.pow_succ, Nat.div_div_eq_div_mul])
          obtain ⟨A6, c6, rfl, h6c, h6m, -, -⟩ := own_rd HO4.out
          have hjk : j + k < 100000009 := by omega
          have hl2I : R2 ≠ 0 → (0 : Int) < (ll R2 : Int) := fun h => by have := ll_nz R2 h; omega
          have HL2 := Lib.hid hl2I
          clear hdone hl2I
          obtain ⟨y, hy⟩ : ∃ y, n0 / 10 ^ k = y := ⟨_, rfl⟩
          rw [hy] at hgo hnk HDG HPS ⊢
          clear hy
          have hcase : (0 : Int) < (y : Int) ∨ (¬ (0 : Int) < (y : Int) ∧ (0 : Int) < (ll R2 : Int)) := by
            rcases hgo with h | h
            · left; omega
            · by_cases h0 : y = 0
              · right; exact ⟨by omega, HL2.out h⟩
              · left; omega
          rcases hcase with hA | ⟨hA, hB⟩
          · clear hgo
            have hHO := HO4.out.alloc (.cells #[.int .u8 (48 + (y : Int) % 10)] 5)
            have HHO := Lib.hid hHO
            clear hHO
            go_wp2_with (at_builtin; refine wpList_append_any _ rfl _ _ _ rfl w.heap.size 5 i0 (.int .u8 0) 1 1 Tryd.underlying42 hi hz0 hz1 hz2 rfl (by omega) (.slice A6 (j + k) c6) (j + k) (vals .u8 (dgs N (j + k))) rfl HHO.out (wr.heap.size + 1) (some ⟨wr.heap.size, 0, none⟩) 1 1 [.int .u8 (48 + (y : Int) % 10)] rfl ?c1 ?c2 ?c3 ?c4 ?c5 ?_)
            case c1 => exact ⟨rfl, fun _ => ⟨_, rfl, by simp, cell_one_new _ _ _⟩⟩
            case c2 => exact one_oneCell rfl
            case c3 => unfold maxLen; omega
            case c4 => omega
            case c5 => have := HB4.out.size; simp; omega
            intro v2 w5 hown2 hg2 hor
            have HX6 : Hid (OneX w5 b R2 v2) := Lib.hid (OneX.append (OneX.append HX4.out (World.grownBy_alloc wr _ _) (.inl rfl)) hg2 (by
              rcases hor with h | h
              · exact .inl h
              · exact .inr ⟨_, h, by simp⟩))
            have HB6 := Lib.hid ((HB4.out.alloc HB4.out.size _).grown hg2 (by have := HB4.out.size; simp; omega) (fun q hq => (HO4.out.lt q hq).1))
            have HO6 : Hid (w5.ownsRow w.heap.size 5 1 v2 (j + (k + 1)) (vals .u8 (dgs N (j + (k + 1))))) := Lib.hid (by
              rw [← Nat.add_assoc, dgs_succ, vals_append, ← HDG.out, vals_one, show ((48 + y % 10 : Nat) : Int) = 48 + (y : Int) % 10 by omega]
              exact hown2)
            clear hown2 hg2 hor
            go_wp2_with fail
            go_roundw
            case rel => exact ⟨k + 1, by omega, by go_num, by rw [← HPS.out]; go_num, HX6.out, HO6.out, HNZ.out, HB6.out⟩
            case measure => simp [RowKit.intOf]; omega
          · obtain rfl : y = 0 := by omega
            clear hgo hA
            have hHO := HO4.out.alloc (.cells #[.int .u8 48] 5)
            have HHO := Lib.hid hHO
            clear hHO
            go_wp2_with (at_builtin; refine wpList_append_any _ rfl _ _ _ rfl w.heap.size 5 i0 (.int .u8 0) 1 1 Tryd.underlying42 hi hz0 hz1 hz2 rfl (by omega) (.slice A6 (j + k) c6) (j + k) (vals .u8 (dgs N (j + k))) rfl HHO.out (wr.heap.size + 1) (some ⟨wr.heap.size, 0, none⟩) 1 1 [.int .u8 48] rfl ?e1 ?e2 ?e3 ?e4 ?e5 ?_)
            case e1 => exact ⟨rfl, fun _ => ⟨_, rfl, by simp, cell_one_new _ _ _⟩⟩
            case e2 => exact one_oneCell rfl
            case e3 => unfold maxLen; omega
            case e4 => omega
            case e5 => have := HB4.out.size; simp; omega
            intro v2 w5 hown2 hg2 hor
            have HX6 : Hid (OneX w5 b R2 v2) := Lib.hid (OneX.append (OneX.append HX4.out (World.grownBy_alloc wr _ _) (.inl rfl)) hg2 (by
              rcases hor with h | h
              · exact .inl h
              · exact .inr ⟨_, h, by simp⟩))
            have HB6 := Lib.hid ((HB4.out.alloc HB4.out.size _).grown hg2 (by have := HB4.out.size; simp; omega) (fun q hq => (HO4.out.lt q hq).1))
            have HO6 : Hid (w5.ownsRow w.heap.size 5 1 v2 (j + (k + 1)) (vals .u8 (dgs N (j + (k + 1))))) := Lib.hid (by
              rw [← Nat.add_assoc, dgs_succ, vals_append, ← HDG.out, vals_one, show ((48 + 0 % 10 : Nat) : Int) = 48 by omega]
              exact hown2)
            clear hown2 hg2 hor
            go_wp2_with fail
            go_roundw
            case rel => exact ⟨k + 1, by omega, by go_num, by rw [← HPS.out]; go_num, HX6.out, HO6.out, HNZ.out, HB6.out⟩
            case measure => simp [RowKit.intOf]; omega
end Go.Proofs.YtgckfilmhnapeaaDoor
