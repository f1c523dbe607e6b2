/- Contract of cruciblelaw01.LeftComplexes; pairs in a row of the call's own. -/
import Derived.Test.YtaichdcknoopdaaSums1
namespace Go.Proofs.Ytaichdcknoopdaa
open Go.RowKit

set_option maxRecDepth 100000 in
set_option maxHeartbeats 1000000 in
theorem left_any (w : World) (g : Nat) (L : Option Addr) (n d : Nat) (ps : List (Nat × Nat)) (hn : ps.length = n) (hl : n ≤ 1048576) (hX : Rd w (some ⟨g, 0, none⟩) (cvals ps)) (hM : w.cell? ⟨g, n, none⟩ = some mc) (hL : Rd w L (cvals ps)) (hbd : ∀ p ∈ ps, U64 p.1 ∧ U64 p.2) :
    Calls Try.prog 28 #[.slice (some ⟨g, 0, none⟩) n (n + 1 : Nat), .slice L n d] w fun e w' => e = .returned (.bool true) ∧ ∃ q, w' = w.drewN q := by
  have HS := Lib.hid (sameCplxs_self w (some ⟨g, 0, none⟩) L n (n + 1) d ps hn hl hX hL hbd)
  have HM := Lib.hid isMark_any
  clear hX hL hbd hn
  unfold mc at hM
  have k1 : (n : Int) < (n : Int) + 1 := by omega
  go_enter Try.func28, Try.ntmps28
  go_wp2_with fail
  refine HS.out.mono ?_
  rintro e w' ⟨rfl, q, rfl⟩
  go_wp2_with fail
  refine (HM.out _).mono ?_
  rintro e w' ⟨rfl, rfl⟩
  go_wp2_with fail
  go_ret
  exact ⟨rfl, q, rfl⟩

/-- the cells of pairs -/
def pcells (ps : List (Nat × Nat)) : List Value := ps.flatMap fun p => [.int .u64 p.1, .int .u64 p.2]
theorem pcells_snoc (ps : List (Nat × Nat)) (p : Nat × Nat) : pcells (ps ++ [p]) = pcells ps ++ [.int .u64 p.1, .int .u64 p.2] := by
  simp [pcells]
theorem pcells_len (ps : List (Nat × Nat)) : (pcells ps).length = ps.length * 2 := by
  induction ps with
  | nil => rfl
  | cons p l ih => simp only [pcells, List.flatMap_cons, List.length_append, List.length_cons] at *; rw [ih]; simp; omega
theorem pcells_get (ps : List (Nat × Nat)) (i : Nat) (h : i < ps.length) : (pcells ps)[i * 2]? = some (.int .u64 ((ps.getD i (0, 0)).1 : Nat)) ∧ (pcells ps)[i * 2 + 1]? = some (.int .u64 ((ps.getD i (0, 0)).2 : Nat)) := by
  induction ps generalizing i with
  | nil => simp at h
  | cons p l ih =>
    cases i with
    | zero => exact ⟨rfl, rfl⟩
    | succ i =>
      have := ih i (by simpa using h)
      have e : pcells (p :: l) = .int .u64 p.1 :: .int .u64 p.2 :: pcells l := rfl
      rw [e, show (i + 1) * 2 = i * 2 + 1 + 1 from by omega, List.getElem?_cons_succ, List.getElem?_cons_succ, List.getElem?_cons_succ, List.getElem?_cons_succ]
      simpa using this
theorem pairs_own {w : World} {base : Nat} {e : TypeId} {v : Value} {n : Nat} {ps : List (Nat × Nat)} (hn : ps.length = n) (h : w.ownsRow base e 2 v n (pcells ps)) : ∃ A c, v = .slice A n c ∧ PairsAt w A ps := by
  subst hn
  rcases h.2 with ⟨rfl, h0⟩ | ⟨g, cap, cur, rfl, hb, hg, hc, _, hcs, ht⟩
  · rw [h0]
    exact ⟨none, 0, rfl, fun i hi => absurd hi (by omega)⟩
  · refine ⟨_, _, rfl, fun i hi => ⟨g, 0, rfl, ?_, ?_, ?_⟩⟩
    · exact (Array.getElem?_eq_some_iff.1 hg).1
    · rw [Nat.zero_add, cell_of_row w g _ cur e (0, 0) hg]
      have := (pcells_get ps i hi).1
      rw [← ht, List.getElem?_take_of_lt (by omega)] at this
      simpa using this
    · rw [Nat.zero_add, cell_of_row w g _ cur e (0, 0) hg]
      have := (pcells_get ps i hi).2
      rw [← ht, List.getElem?_take_of_lt (by omega)] at this
      simpa using this

/-- the copy, half written over back to front -/
def mix (ps : List (Nat × Nat)) (k : Nat) : List Value := cvals (ps.reverse.take k) ++ (cvals (ps.drop k) ++ [mc])
theorem mix_zero (ps : List (Nat × Nat)) : mix ps 0 = cvals ps ++ [mc] := by simp [mix, cvals]
theorem mix_end (ps : List (Nat × Nat)) : mix ps ps.length = cvals ps.reverse ++ [mc] := by
  unfold mix
  rw [List.take_of_length_le (by simp), List.drop_of_length_le (Nat.le_refl _)]
  simp [cvals]
theorem rev_get (ps : List (Nat × Nat)) (k j : Nat) (h : ps.length = k + 1 + j) : ps.reverse.getD k (0, 0) = ps.getD j (0, 0) := by
  have hk : k < ps.reverse.length := by simp; omega
  have hj : j < ps.length := by omega
  have e1 : ps.reverse.getD k (0, 0) = ps.reverse[k] := by rw [List.getD_eq_getElem?_getD, List.getElem?_eq_getElem hk]; rfl
  have e2 : ps.getD j (0, 0) = ps[j] := by rw [List.getD_eq_getElem?_getD, List.getElem?_eq_getElem hj]; rfl
  rw [e1, e2, List.getElem_reverse]
  congr 1
  omega
theorem mix_get (ps : List (Nat × Nat)) (k : Nat) (h : k < ps.length) : ∃ x y, (mix ps k)[k]? = some (.complex .f64 x y) := by
  refine ⟨(ps.getD k (0, 0)).1, (ps.getD k (0, 0)).2, ?_⟩
  unfold mix
  have hl : (cvals (ps.reverse.take k)).length = k := by rw [cvals_len, List.length_take, List.length_reverse, Nat.min_eq_left (by omega)]
  have e2 : ps.getD k (0, 0) = ps[k] := by rw [List.getD_eq_getElem?_getD, List.getElem?_eq_getElem h]; rfl
  rw [List.getElem?_append_right (by omega), hl, Nat.sub_self, List.drop_eq_getElem_cons h, e2]
  rfl
theorem mix_set (ps : List (Nat × Nat)) (k : Nat) (h : k < ps.length) (p : Nat × Nat) (hp : ps.reverse.getD k (0, 0) = p) : (mix ps k).set k (.complex .f64 p.1 p.2) = mix ps (k + 1) := by
  have hl : (cvals (ps.reverse.take k)).length = k := by rw [cvals_len, List.length_take, List.length_reverse, Nat.min_eq_left (by omega)]
  unfold mix
  rw [List.set_append_right _ _ (by omega), hl, Nat.sub_self, List.drop_eq_getElem_cons h, cvals_succ ps.reverse k (by simpa using h) p hp, List.append_assoc]
  rfl
theorem rev_snoc (ps : List (Nat × Nat)) (k : Nat) (h : k < ps.length) (p : Nat × Nat) (hp : ps.reverse.getD k (0, 0) = p) : ps.reverse.take (k + 1) = ps.reverse.take k ++ [p] := by
  have hk : k < ps.reverse.length := by simpa using h
  rw [List.take_succ_eq_append_getElem hk]
  have e1 : ps.reverse.getD k (0, 0) = ps.reverse[k] := by rw [List.getD_eq_getElem?_getD, List.getElem?_eq_getElem hk]; rfl
  rw [← e1, hp]
end Go.Proofs.Ytaichdcknoopdaa
