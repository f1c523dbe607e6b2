/- Contracts of cruciblelaw01.TwinComplexes and LeftComplexes. -/
import Derived.Test.YtaichdcknoopdaaSums0
import Derived.StillTailTactics
namespace Go.Proofs.Ytaichdcknoopdaa
open Go.RowKit

theorem run_store_cplx {P : Program} {w : World} (a : Addr) (k : FloatKind) (x y : Nat) (m : Mode) : (store a (.complex k x y) m).run P w = stored P w a (.complex k x y) m := run_store P w a _ m rfl
attribute [local go_sem] run_store_cplx

def zc : Value := .complex .f64 0 0
def mc : Value := .complex .f64 markX 4607182418800017408
/-- the copy after k rounds: m places are still to come -/
def half (ps : List (Nat × Nat)) (k m : Nat) : List Value := cvals (ps.take k) ++ List.replicate m zc
theorem set_mid (a : List Value) (m : Nat) (v : Value) : (a ++ List.replicate (m + 1) zc).set a.length v = (a ++ [v]) ++ List.replicate m zc := by
  rw [List.replicate_succ, List.set_append_right _ _ (Nat.le_refl _)]; simp
theorem half_set (ps : List (Nat × Nat)) (k m : Nat) (h : k < ps.length) (p : Nat × Nat) (hp : ps.getD k (0, 0) = p) : (half ps k (m + 1)).set k (.complex .f64 p.1 p.2) = half ps (k + 1) m := by
  have e := set_mid (cvals (ps.take k)) m (.complex .f64 p.1 p.2)
  rw [cvals_len, List.length_take, Nat.min_eq_left (by omega)] at e
  unfold half
  rw [e, cvals_succ ps k h p hp]
theorem half_end (ps : List (Nat × Nat)) (v : Value) : (half ps ps.length 1).set ps.length v = cvals ps ++ [v] := by
  have e := set_mid (cvals ps) 0 v
  rw [cvals_len] at e
  unfold half
  rw [List.take_length, e]; simp

theorem half_get (ps : List (Nat × Nat)) (k m : Nat) (h : k ≤ ps.length) : (half ps k (m + 1))[k]? = some (.complex .f64 0 0) := by
  unfold half
  rw [List.getElem?_append_right (by rw [cvals_len, List.length_take]; omega), cvals_len, List.length_take, Nat.min_eq_left h, Nat.sub_self, List.replicate_succ]
  rfl

def TwinRel (w : World) (g n : Nat) (ps : List (Nat × Nat)) (i : Value) (wr : World) : Prop :=
  ∃ k m : Nat, k + m = n ∧ i = .int .i64 k ∧ wr.ownsRow w.heap.size 48 1 (.slice (some ⟨g, 0, none⟩) (n + 1) (n + 1)) (n + 1) (half ps k (m + 1)) ∧ Below w.heap.size w wr
def TwinPost (w : World) (ps : List (Nat × Nat)) (e : Ending) (w' : World) : Prop :=
  ∃ g, e = .returned (.slice (some ⟨g, 0, none⟩) ps.length (ps.length + 1)) ∧ w.heap.size ≤ g ∧ w'.ownsRow w.heap.size 48 1 (.slice (some ⟨g, 0, none⟩) (ps.length + 1) (ps.length + 1)) (ps.length + 1) (cvals ps ++ [mc]) ∧ Below w.heap.size w w'

set_option maxRecDepth 100000 in
set_option maxHeartbeats 2000000 in
theorem twin_any (w : World) (A : Option Addr) (n c : Nat) (ps : List (Nat × Nat)) (hn : ps.length = n) (hl : n ≤ 1048576) (hA : Rd w A (cvals ps)) :
    Calls Try.prog 26 #[.slice A n c] w (TwinPost w ps) := by
  subst hn
  have HR := Lib.hid hA
  clear hA
  have HM := Lib.hid mark_any
  obtain ⟨i0, hi, hz0, hz1, hz2⟩ := info_parts info_cplx
  go_enter Try.func26, Try.ntmps26
  go_wp2_with (at_make; refine wpList_make_full _ rfl _ _ 47 rfl w.heap.size 48 i0 (.complex .f64 0 0) 1 Try.underlying47 hi hz0 hz1 _ _ _ _ (ps.length + 1) rfl rfl ?c0 ?c1 ?c2 ?c3 ?c4 ?_)
  case c0 => omega
  case c1 => omega
  case c2 => rw [hz2]; omega
  case c3 => unfold maxLen; omega
  case c4 => exact Nat.le_refl _
  intro w1 hown1 hg1
  rw [toList_madeCells_one] at hown1
  have HO1 := Lib.hid hown1
  have HB1 : Hid (Below w.heap.size w w1) := Lib.hid ((Below.refl _ _).grown hg1 (Nat.le_refl _) (fun _ h => by cases h))
  clear hown1 hg1
  obtain ⟨g, hg⟩ : ∃ g, g = w.heap.size := ⟨_, rfl⟩
  have HG := Lib.hid hg
  clear hg
  go_wp2_with fail
  go_loopw [4] (fun i wr => TwinRel w w.heap.size ps.length ps i wr) (fun i _ => ps.length - (intOf i).toNat)
  case atStart => exact ⟨0, ps.length, by omega, rfl, by unfold half zc; simpa [cvals] using HO1.out, HB1.out⟩
  case round =>
    obtain ⟨k, m, hkm, rfl, hown, hbel⟩ := hrel
    have HO := Lib.hid hown
    have HB := Lib.hid hbel
    clear hown hbel
    by_cases hlt : k < ps.length
    · obtain ⟨m, rfl⟩ : ∃ m', m = m' + 1 := ⟨m - 1, by omega⟩
      obtain ⟨b, off, rfl, hcell⟩ := (HR.out.below HB.out).at_ (cvals_get ps k hlt)
      have eq1 : (ps.map (·.1)).getD k 0 = (ps.getD k (0, 0)).1 := by simp [hlt]
      have eq2 : (ps.map (·.2)).getD k 0 = (ps.getD k (0, 0)).2 := by simp [hlt]
      rw [eq1, eq2] at hcell
      clear eq1 eq2
      have HS := half_set ps k (m + 1) hlt _ rfl
      generalize ps.getD k (0, 0) = p at *
      have hfz := HO.out.frozenAt k
      have hcell2 := HO.out.cellAt k (by omega)
      rw [half_get ps k (m + 1) (by omega)] at hcell2
      have hst := (HO.out.stored k (.complex .f64 p.1 p.2)).1
      rw [HS] at hst
      have HST := Lib.hid hst
      clear HS hst
      have r1 : (k : Int) < (ps.length : Int) + 1 := by omega
      go_wp2_with fail
      go_roundw
      case rel => exact ⟨k + 1, m, by omega, by go_num, HST.out, HB.out.setCell (p := ⟨w.heap.size, k, none⟩) (Nat.le_refl _) _⟩
      case measure => simp [intOf]; omega
    · obtain rfl : k = ps.length := by omega
      obtain rfl : m = 0 := by omega
      have hfz := HO.out.frozenAt ps.length
      have hcell2 := HO.out.cellAt ps.length (by omega)
      rw [half_get ps ps.length 0 (by omega)] at hcell2
      have hst := (HO.out.stored ps.length mc).1
      rw [half_end] at hst
      have HST := Lib.hid hst
      clear hst hkm
      have r1 : (ps.length : Int) < (ps.length : Int) + 1 := by omega
      go_wp2_with fail
      refine (HM.out _).mono ?_
      rintro e w' ⟨rfl, rfl⟩
      go_wp2_with fail
      go_ret
      exact ⟨w.heap.size, rfl, Nat.le_refl _, HST.out, HB.out.setCell (p := ⟨w.heap.size, ps.length, none⟩) (Nat.le_refl _) _⟩
end Go.Proofs.Ytaichdcknoopdaa
