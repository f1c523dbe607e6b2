/- Natural numbers as lists of digits, the lowest first: plain Lean. -/
import Derived.Test.YtgckfilmhnapeaaDoorMem
namespace Go.Proofs.YtgckfilmhnapeaaDoor
open Go.RowKit

/-- a list of numbers as cells -/
def vals (k : IntKind) (xs : List Nat) : List Value := xs.map (fun (x : Nat) => Value.int k (x : Int))
theorem vals_length (k : IntKind) (xs : List Nat) : (vals k xs).length = xs.length := by simp [vals]
theorem vals_get (k : IntKind) (xs : List Nat) (i : Nat) (h : i < xs.length) : (vals k xs)[i]? = some (.int k ((xs.getD i 0 : Nat) : Int)) := by
  simp [vals, h]
theorem vals_append (k : IntKind) (xs ys : List Nat) : vals k (xs ++ ys) = vals k xs ++ vals k ys := by simp [vals]
theorem vals_one (k : IntKind) (x : Nat) : vals k [x] = [.int k (x : Int)] := rfl
theorem vals_take (k : IntKind) (xs : List Nat) (i : Nat) : (vals k xs).take i = vals k (xs.take i) := by simp [vals]
theorem vals_drop (k : IntKind) (xs : List Nat) (i : Nat) : (vals k xs).drop i = vals k (xs.drop i) := by simp [vals]
theorem vals_oneCell (k : IntKind) (xs : List Nat) : ∀ u ∈ vals k xs, u.oneCell' = true := by
  intro u hu
  simp only [vals, List.mem_map] at hu
  obtain ⟨x, _, rfl⟩ := hu
  rfl
theorem vals_set (k : IntKind) (xs : List Nat) (i x : Nat) : (vals k xs).set i (.int k (x : Int)) = vals k (xs.set i x) := by
  simp [vals, List.map_set]
theorem vals_replicate (k : IntKind) (n : Nat) : vals k (List.replicate n 0) = List.replicate n (.int k 0) := by simp [vals]

theorem getD_take {xs : List Nat} {i n : Nat} (h : i < n) : (xs.take n).getD i 0 = xs.getD i 0 := by
  simp only [List.getD_eq_getElem?_getD, List.getElem?_take, if_pos h]
theorem take_snoc_nat (xs : List Nat) (k : Nat) (h : k < xs.length) : xs.take (k + 1) = xs.take k ++ [xs.getD k 0] := by
  rw [List.take_succ_eq_append_getElem h]; simp [h]

/-- the number of a list of digits to a base -/
def bval (b : Nat) : List Nat → Nat
  | [] => 0
  | x :: l => x + b * bval b l
theorem bval_append (b : Nat) (xs ys : List Nat) : bval b (xs ++ ys) = bval b xs + b ^ xs.length * bval b ys := by
  induction xs with
  | nil => simp [bval]
  | cons x l ih =>
    simp only [List.cons_append, bval, List.length_cons, Nat.pow_succ, ih, Nat.mul_add]
    rw [Nat.add_assoc, ← Nat.mul_assoc, Nat.mul_comm (b ^ l.length) b]
theorem bval_snoc (b : Nat) (xs : List Nat) (x : Nat) : bval b (xs ++ [x]) = bval b xs + b ^ xs.length * x := by
  rw [bval_append]; simp [bval]
theorem bval_take_succ (b : Nat) (xs : List Nat) (k : Nat) (h : k < xs.length) : bval b (xs.take (k + 1)) = bval b (xs.take k) + b ^ k * xs.getD k 0 := by
  rw [take_snoc_nat xs k h, bval_snoc, List.length_take, Nat.min_eq_left (by omega)]
theorem bval_lt (b : Nat) (xs : List Nat) (h : ∀ x ∈ xs, x < b) : bval b xs < b ^ xs.length := by
  induction xs with
  | nil => simp [bval]
  | cons x l ih =>
    simp only [bval, List.length_cons, Nat.pow_succ]
    have h1 := ih (fun y hy => h y (List.mem_cons_of_mem _ hy))
    have h2 := h x (List.mem_cons_self ..)
    have h3 : bval b l + 1 ≤ b ^ l.length := h1
    have h4 := Nat.mul_le_mul_left b h3
    rw [Nat.mul_comm (b ^ l.length) b]
    rw [Nat.mul_add] at h4
    omega
theorem bval_replicate (b n : Nat) : bval b (List.replicate n 0) = 0 := by
  induction n with
  | zero => rfl
  | succ n ih => simp [List.replicate_succ, bval, ih]
theorem bval_zero (b : Nat) (xs : List Nat) (h : ∀ x ∈ xs, x = 0) : bval b xs = 0 := by
  induction xs with
  | nil => rfl
  | cons x l ih =>
    simp only [bval]
    rw [h x (List.mem_cons_self ..), ih (fun y hy => h y (List.mem_cons_of_mem _ hy))]; simp

/-- the digits of a number, none 0 at the end -/
def dig (b n : Nat) : List Nat := if _h : 2 ≤ b ∧ n ≠ 0 then n % b :: dig b (n / b) else []
termination_by n
decreasing_by exact Nat.div_lt_self (by omega) (by omega)

theorem dig_zero (b : Nat) : dig b 0 = [] := by unfold dig; simp
theorem dig_pos {b n : Nat} (hb : 2 ≤ b) (hn : n ≠ 0) : dig b n = n % b :: dig b (n / b) := by
  rw [dig, dif_pos ⟨hb, hn⟩]
theorem bval_dig {b : Nat} (hb : 2 ≤ b) (n : Nat) : bval b (dig b n) = n := by
  induction n using Nat.strongRecOn with
  | _ n ih =>
    by_cases hn : n = 0
    · subst hn; rw [dig_zero]; rfl
    · rw [dig_pos hb hn]
      simp only [bval]
      rw [ih (n / b) (Nat.div_lt_self (by omega) (by omega))]
      exact Nat.mod_add_div n b
theorem dig_lt {b : Nat} (hb : 2 ≤ b) (n : Nat) : ∀ x ∈ dig b n, x < b := by
  induction n using Nat.strongRecOn with
  | _ n ih =>
    by_cases hn : n = 0
    · subst hn; rw [dig_zero]; simp
    · rw [dig_pos hb hn]
      intro x hx
      rcases List.mem_cons.1 hx with rfl | hx
      · exact Nat.mod_lt _ (by omega)
      · exact ih (n / b) (Nat.div_lt_self (by omega) (by omega)) x hx
theorem dig_last {b : Nat} (hb : 2 ≤ b) (n : Nat) (hn : n ≠ 0) : (dig b n).length ≠ 0 ∧ (dig b n).getD ((dig b n).length - 1) 0 ≠ 0 := by
  induction n using Nat.strongRecOn with
  | _ n ih =>
    rw [dig_pos hb hn]
    refine ⟨by simp, ?_⟩
    by_cases hq : n / b = 0
    · rw [hq, dig_zero]
      simp only [List.length_cons, List.length_nil, Nat.zero_add, Nat.sub_self, List.getD_cons_zero]
      have : n < b := by
        rcases Nat.div_eq_zero_iff.1 hq with h | h
        · omega
        · exact h
      rw [Nat.mod_eq_of_lt this]; exact hn
    · have := ih (n / b) (Nat.div_lt_self (by omega) (by omega)) hq
      obtain ⟨m, hm⟩ : ∃ m, (dig b (n / b)).length = m + 1 := ⟨(dig b (n / b)).length - 1, by omega⟩
      rw [List.length_cons, hm]
      have h2 := this.2
      rw [hm] at h2
      simpa using h2

/-- a list of digits whose last one is not 0 is that of its number -/
theorem dig_unique {b : Nat} (hb : 2 ≤ b) (xs : List Nat) (h1 : ∀ x ∈ xs, x < b) (h2 : xs = [] ∨ xs.getD (xs.length - 1) 0 ≠ 0) : dig b (bval b xs) = xs := by
  induction xs with
  | nil => simp [bval, dig_zero]
  | cons x l ih =>
    have hx := h1 x (List.mem_cons_self ..)
    have hl : dig b (bval b l) = l := by
      refine ih (fun y hy => h1 y (List.mem_cons_of_mem _ hy)) ?_
      cases l with
      | nil => exact Or.inl rfl
      | cons y l' =>
        right
        rcases h2 with h2 | h2
        · cases h2
        · simpa using h2
    have hne : bval b (x :: l) ≠ 0 := by
      simp only [bval]
      intro k
      have hx0 : x = 0 := by omega
      have hb0 : b * bval b l = 0 := by omega
      have hl0 : bval b l = 0 := by
        rcases Nat.mul_eq_zero.1 hb0 with h | h
        · omega
        · exact h
      rw [hl0, dig_zero] at hl
      subst hl
      rcases h2 with h2 | h2
      · cases h2
      · simp [hx0] at h2
    rw [dig_pos hb hne]
    simp only [bval]
    rw [Nat.add_mul_mod_self_left, Nat.mod_eq_of_lt hx, Nat.add_mul_div_left _ _ (by omega), Nat.div_eq_of_lt hx, Nat.zero_add, hl]

theorem dig_len_le {b : Nat} (hb : 2 ≤ b) (n k : Nat) (h : n < b ^ k) : (dig b n).length ≤ k := by
  induction k generalizing n with
  | zero =>
    have : n = 0 := by simpa using h
    subst this; rw [dig_zero]; simp
  | succ k ih =>
    by_cases hn : n = 0
    · subst hn; rw [dig_zero]; simp
    · rw [dig_pos hb hn]
      have : n / b < b ^ k := by
        rw [Nat.div_lt_iff_lt_mul (by omega), ← Nat.pow_succ]; exact h
      have := ih _ this
      simpa using this
theorem lt_dig_len {b : Nat} (hb : 2 ≤ b) (n : Nat) : n < b ^ (dig b n).length := by
  have := bval_lt b (dig b n) (dig_lt hb n)
  rwa [bval_dig hb] at this
theorem dig_len_ge {b : Nat} (hb : 2 ≤ b) (n : Nat) (hn : n ≠ 0) : b ^ ((dig b n).length - 1) ≤ n := by
  induction n using Nat.strongRecOn with
  | _ n ih =>
    rw [dig_pos hb hn]
    by_cases hq : n / b = 0
    · rw [hq, dig_zero]; simp; omega
    · have h1 := ih (n / b) (Nat.div_lt_self (by omega) (by omega)) hq
      have h2 := (dig_last hb (n / b) hq).1
      obtain ⟨m, hm⟩ : ∃ m, (dig b (n / b)).length = m + 1 := ⟨(dig b (n / b)).length - 1, by omega⟩
      rw [hm] at h1
      rw [List.length_cons, hm]
      simp only [Nat.add_sub_cancel] at h1 ⊢
      rw [Nat.pow_succ]
      exact (Nat.le_div_iff_mul_le (by omega)).1 h1

/-- the list without noughts at its end -/
def trm (xs : List Nat) : List Nat := (xs.reverse.dropWhile (· == 0)).reverse
theorem trm_snoc_zero (xs : List Nat) : trm (xs ++ [0]) = trm xs := by simp [trm]
theorem trm_snoc_pos (xs : List Nat) (x : Nat) (h : x ≠ 0) : trm (xs ++ [x]) = xs ++ [x] := by simp [trm, h]
theorem trm_nil : trm [] = [] := rfl
theorem trm_cases (xs : List Nat) : trm xs = [] ∨ (trm xs).getD ((trm xs).length - 1) 0 ≠ 0 := by
  generalize hn : xs.length = n
  induction n generalizing xs with
  | zero => left; rw [List.eq_nil_of_length_eq_zero hn]; rfl
  | succ n ih =>
    have hne : xs ≠ [] := by rintro rfl; simp at hn
    rw [← List.dropLast_concat_getLast hne]
    by_cases h : xs.getLast hne = 0
    · rw [h, trm_snoc_zero]; exact ih _ (by simp [hn])
    · rw [trm_snoc_pos _ _ h]; right; simpa using h
theorem trm_spec (xs : List Nat) : ∃ m, xs = trm xs ++ List.replicate m 0 := by
  generalize hn : xs.length = n
  induction n generalizing xs with
  | zero => exact ⟨0, by rw [List.eq_nil_of_length_eq_zero hn]; rfl⟩
  | succ n ih =>
    have hne : xs ≠ [] := by rintro rfl; simp at hn
    by_cases h : xs.getLast hne = 0
    · obtain ⟨m, hm⟩ := ih xs.dropLast (by simp [hn])
      have e := List.dropLast_concat_getLast hne
      rw [h] at e
      refine ⟨m + 1, ?_⟩
      have e2 : trm xs = trm xs.dropLast := by
        conv => lhs; rw [← e]
        exact trm_snoc_zero _
      rw [e2, List.replicate_succ', ← List.append_assoc, ← hm, e]
    · refine ⟨0, ?_⟩
      have e := List.dropLast_concat_getLast hne
      have e2 : trm xs = xs := by
        conv => lhs; rw [← e]
        rw [trm_snoc_pos _ _ h, e]
      rw [e2]; simp
theorem trm_val (b : Nat) (xs : List Nat) : bval b (trm xs) = bval b xs := by
  obtain ⟨m, hm⟩ := trm_spec xs
  conv => rhs; rw [hm]
  rw [bval_append, bval_replicate]; simp
theorem trm_mem (xs : List Nat) (x : Nat) (h : x ∈ trm xs) : x ∈ xs := by
  obtain ⟨m, hm⟩ := trm_spec xs
  rw [hm]; exact List.mem_append_left _ h
theorem trm_len (xs : List Nat) : (trm xs).length ≤ xs.length := by
  obtain ⟨m, hm⟩ := trm_spec xs
  have := congrArg List.length hm
  rw [List.length_append] at this
  omega
theorem trm_take (xs : List Nat) : xs.take (trm xs).length = trm xs := by
  obtain ⟨m, hm⟩ := trm_spec xs
  have : (trm xs ++ List.replicate m 0).take (trm xs).length = trm xs := List.take_left
  rw [← hm] at this
  exact this
theorem trm_dig {b : Nat} (hb : 2 ≤ b) (xs : List Nat) (h : ∀ x ∈ xs, x < b) : trm xs = dig b (bval b xs) := by
  rw [← trm_val b xs, dig_unique hb _ (fun x hx => h x (trm_mem xs x hx)) (trm_cases xs)]
end Go.Proofs.YtgckfilmhnapeaaDoor
