/- DecimalBehind: the plain part. -/
import Derived.Test.YtgckfilmhnapeaaDoorFp6
import Derived.Test.YtgckfilmhnapeaaDoorLr
namespace Go.Proofs.YtgckfilmhnapeaaDoor
open Go.RowKit Go.Lib
set_option linter.unusedVariables false

/-- so many digits: what stands behind them counts alone by whether it is there -/
theorem behind_rd {f l W a b : Nat} (hf : f ≤ 52) (hl : l ≤ 1074) (hfl : f + W ≤ 1200 + l) (n m R j : Nat) (hn : n = 799) (hm : 10 ^ n ≤ m) (hR0 : 0 < R) (hR : R < 10 ^ j) (p : Int)
    (h : RdSpec f l W (m * 10 + 1) (p - 801) a) (g : RdSpec f l W (m * 10 ^ j + R) (p - (800 + j : Nat)) b) : a = b := by
  by_cases hp : p ≤ 800
  · obtain ⟨P, hP⟩ : ∃ P : Nat, p = 800 - (P : Int) := ⟨(800 - p).toNat, by omega⟩
    obtain ⟨u1, u2⟩ := within_ten m 1 1 P (by decide) (by decide)
    obtain ⟨v1, v2⟩ := within_ten m R j P hR0 hR
    have hb := pow2_big f l n m hf hl (by omega) hm
    have hc := cell_ten f l ((W + 1) * 2 ^ f) P m (m * 10 ^ 1 + 1) (10 ^ (P + 1)) (m * 10 ^ j + R) (10 ^ (P + j)) hb u1 u2 v1 v2
    unfold RdSpec at h g
    rw [show (p - 801).toNat = 0 by omega, show (-(p - 801)).toNat = P + 1 by omega, Nat.pow_zero, Nat.mul_one] at h
    rw [show (p - ((800 + j : Nat) : Int)).toNat = 0 by omega, show (-(p - ((800 + j : Nat) : Int))).toNat = P + j by omega, Nat.pow_zero, Nat.mul_one] at g
    rw [Nat.pow_one] at hc
    exact (h.cell hc).unique g (ten_pos _)
  · have e1 : RdSpec f l W (m * 10 + 1) (p - 801) ((W + 1) * 2 ^ f) := by
      refine rd_high f l W _ 801 _ hfl (by decide) ?_ (by omega)
      have e : 801 - 1 = n + 1 := by omega
      rw [e, Nat.pow_succ]
      omega
    have e2 : RdSpec f l W (m * 10 ^ j + R) (p - (800 + j : Nat)) ((W + 1) * 2 ^ f) := by
      refine rd_high f l W _ (800 + j) _ hfl (by omega) ?_ (by omega)
      have e : 800 + j - 1 = n + j := by omega
      rw [e, Nat.pow_add]
      have := Nat.mul_le_mul_right (10 ^ j) hm
      omega
    rw [h.unique e1, g.unique e2]
theorem w_facts (u : Int) : wF u ≤ 52 ∧ wL u ≤ 1074 ∧ wF u + wW u ≤ 1200 + wL u := by
  unfold wF wL wW
  repeat' split
  all_goals simp
theorem nval_nil_of (d : List UInt8) (hd : digL d) (h : ∀ c ∈ d, c = 48) : nval d = 0 := by
  have : d = List.replicate d.length 48 := List.eq_replicate_iff.2 ⟨rfl, h⟩
  rw [this, nval_noughts]
theorem nval_pos_of (d : List UInt8) (hd : digL d) (h : ∃ c ∈ d, c ≠ 48) : 0 < nval d := by
  induction d with
  | nil => obtain ⟨c, hc, -⟩ := h; cases hc
  | cons a d ih =>
    rw [nval_cons]
    by_cases ha : a = 48
    · obtain ⟨c, hc, hn⟩ := h
      rcases List.mem_cons.1 hc with e | e
      · exact absurd (e.trans ha) hn
      · have := ih (fun x hx => hd x (by simp [hx])) ⟨c, e, hn⟩
        omega
    · have h1 := u8_ne ha
      have h2 := hd a (by simp)
      have h3 : 0 < (a.toNat - 48) * 10 ^ d.length := Nat.mul_pos (by omega) (ten_pos _)
      omega
/-- the law's two numbers are read as one pattern -/
theorem behind_read (u : Int) {neg : Bool} (t s g : ByteArray) (d : List UInt8) (p x y : Int) (some : Bool) (ht : digL t.data.toList) (hd : digL d) (hn : t.size = 800) (h0 : ∀ c r, t.data.toList = c :: r → c ≠ 48)
    (hsome : some = true ↔ ∃ c ∈ d, c ≠ 48) (hs : s.data.toList = t.data.toList ++ (if some = true then [49] else [])) (hg : g.data.toList = t.data.toList ++ d)
    (h : LVal (wF u) (wL u) (wW u) (wS u) neg s p x) (k : LVal (wF u) (wL u) (wW u) (wS u) neg g p y) : fineB s = true ∧ fineB g = true ∧ x = y := by
  have fine_of : ∀ l : List UInt8, digL l → fineL l = true := by
    intro l hl
    unfold fineL
    rw [List.all_eq_true]
    intro c hc
    have := hl c hc
    simpa [dgB] using this
  have dapp : ∀ l r : List UInt8, digL l → digL r → digL (l ++ r) := fun l r hl hr c hc => (List.mem_append.1 hc).elim (hl c) (hr c)
  have done : digL [49] := fun c hc => by rw [List.mem_singleton.1 hc]; decide
  have dnil : digL [] := fun c hc => by cases hc
  have ds : digL s.data.toList := by rw [hs]; refine dapp _ _ ht ?_; split <;> assumption
  have dg : digL g.data.toList := by rw [hg]; exact dapp _ _ ht hd
  have fs : fineB s = true := fine_of _ ds
  have fg : fineB g = true := fine_of _ dg
  refine ⟨fs, fg, ?_⟩
  rcases h with ⟨e, -⟩ | ⟨-, a, rfl, ra, -⟩
  · rw [fs] at e; cases e
  rcases k with ⟨e, -⟩ | ⟨-, b, rfl, rb, -⟩
  · rw [fg] at e; cases e
  obtain ⟨w1, w2, w3⟩ := w_facts u
  have ln : t.data.toList.length = 800 := by rw [bytes_len]; exact hn
  obtain ⟨n, hn9⟩ : ∃ n, n = 799 := ⟨_, rfl⟩
  have hm : 10 ^ n ≤ nval t.data.toList := by
    cases hc : t.data.toList with
    | nil => rw [hc] at ln; simp at ln
    | cons c r =>
      have h1 := u8_ne (h0 c r hc)
      have h2 := ht c (by rw [hc]; simp)
      have h3 := nval_ge c r (by omega)
      have h4 : r.length = n := by rw [hc, List.length_cons] at ln; omega
      rw [h4] at h3
      exact h3
  have hab : a = b := by
    rw [hg, nval_append, List.length_append, ln] at rb
    rw [hs] at ra
    cases hsm : some
    · rw [hsm, if_neg (by simp), List.append_nil, ln] at ra
      have hz : nval d = 0 := nval_nil_of d hd (fun c hc => by
        by_cases e : c = 48
        · exact e
        · exact absurd (hsome.2 ⟨c, hc, e⟩) (by rw [hsm]; simp))
      rw [hz, Nat.add_zero] at rb
      refine RdSpec.unique (rd_pad ?_) rb
      rw [show p - ((800 + d.length : Nat) : Int) + (d.length : Int) = p - (800 : Nat) by omega]
      exact ra
    · rw [hsm, if_pos rfl, nval_append, List.length_append, ln] at ra
      have hR := nval_pos_of d hd (hsome.1 hsm)
      have hL := nval_lt d hd
      refine behind_rd w1 w2 w3 n (nval t.data.toList) (nval d) d.length hn9 hm hR hL p ?_ rb
      have e : nval t.data.toList * 10 ^ [(49 : UInt8)].length + nval [49] = nval t.data.toList * 10 + 1 := by
        rw [show [(49 : UInt8)].length = 1 from rfl, Nat.pow_one]; rfl
      rw [e] at ra
      exact ra
  rw [hab]
end Go.Proofs.YtgckfilmhnapeaaDoor
