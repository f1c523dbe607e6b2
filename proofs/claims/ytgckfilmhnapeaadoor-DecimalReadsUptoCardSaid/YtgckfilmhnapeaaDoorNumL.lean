/- Natural numbers as lists of digits, the lowest first: plain Lean. -/
import Derived.Test.YtgckfilmhnapeaaDoorMem
namespace Go.Proofs.YtgckfilmhnapeaaDoor
open Go.RowKit

/-- a list of numbers as cells -/
def vals (k : IntKind) (xs : List Nat) : List Value := xs.map (fun (x : Nat) => Value.int k (x : Int))
theorem vals_length (k : IntKind) (xs : List Nat) : (vals k xs).length = xs.length := by simp [vals]
theorem vals_get (k : IntKind) (xs : List Nat) (i : Nat) (h : i < xs.length) : (vals k xs)[i]? = some (.int k ((xs.getD i 0 : Nat) : Int)) := by
  simp [vals, h]
theorem vals_append (k : IntKind) (xs ys : List Nat) : vals k (xs ++ ys) = vals k xs ++ vals k ys := by simp [vals]
theorem vals_one (k : IntKind) (x : Nat) : vals k [x] = [.int k (x : Int)] := rfl
theorem vals_take (k : IntKind) (xs : List Nat) (i : Nat) : (vals k xs).take i = vals k (xs.take i) := by simp [vals]
theorem vals_drop (k : IntKind) (xs : List Nat) (i : Nat) : (vals k xs).drop i = vals k (xs.drop i) := by simp [vals]
theorem vals_oneCell (k : IntKind) (xs : List Nat) : ∀ u ∈ vals k xs, u.oneCell' = true := by
  intro u hu
  simp only [vals, List.mem_map] at hu
  obtain ⟨x, _, rfl⟩ := hu
  rfl
theorem vals_set (k : IntKind) (xs : List Nat) (i x : Nat) : (vals k xs).set i (.int k (x : Int)) = vals k (xs.set i x) := by
  simp [vals, List.map_set]
theorem vals_replicate (k : IntKind) (n : Nat) : vals k (List.replicate n 0) = List.replicate n (.int k 0) := by simp [vals]

theorem getD_take {xs : List Nat} {i n : Nat} (h : i < n) : (xs.take n).getD i 0 = xs.getD i 0 := by
  simp only [List.getD_eq_getElem?_getD, List.getElem?_take, if_pos h]
theorem take_snoc_nat (xs : List Nat) (k : Nat) (h : k < xs.length) : xs.take (k + 1) = xs.take k ++ [xs.getD k 0] := by
  rw [List.take_succ_eq_append_getElem h]; simp [h]

/-- the number of a list of digits to a base -/
def bval (b : Nat) : List Nat → Nat
  | [] => 0
  | x :: l => x + b * bval b l
theorem bval_append (b : Nat) (xs ys : List Nat) : bval b (xs ++ ys) = bval b xs + b ^ xs.length * bval b ys := by
  induction xs with
  | nil => simp [bval]
  | cons x l ih =>
    simp only [List.cons_append, bval, List.length_cons, Nat.pow_succ, ih, Nat.mul_add]
    rw [Nat.add_assoc, ← Nat.mul_assoc, Nat.mul_comm (b ^ l.length) b]
theorem bval_snoc (b : Nat) (xs : List Nat) (x : Nat) : bval b (xs ++ [x]) = bval b xs + b ^ xs.length * x := by
  rw [bval_append]; simp [bval]
theorem bval_take_succ (b : Nat) (xs : List Nat) (k : Nat) (h : k < xs.length) : bval b (xs.take (k + 1)) = bval b (xs.take k) + b ^ k * xs.getD k 0 := by
  rw [take_snoc_nat xs k h, bval_snoc, List.length_take, Nat.min_eq_left (by omega)]
theorem bval_lt (b : Nat) (xs : List Nat) (h : ∀ x ∈ xs, x < b) : bval b xs < b ^ xs.length := by
  induction xs with
  | nil => simp [bval]
  | cons x l ih =>
    simp only [bval, List.length_cons, Nat.pow_succ]
    have h1 := ih (fun y hy => h y (List.mem_cons_of_mem _ hy))
    have h2 := h x (List.mem_cons_self ..)
    have h3 : bval b l + 1 ≤ b ^ l.length := h1
    have h4 := Nat.mul_le_mul_left b h3
    rw [Nat.mul_comm (b ^ l.length) b]
    rw [Nat.mul_add] at h4
    omega
theorem bval_replicate (b n : Nat) : bval b (List.replicate n 0) = 0 := by
  induction n with
  | zero => rfl
  | succ n ih => simp [List.replicate_succ, bval, ih]
theorem bval_zero (b : Nat) (xs : List Nat) (h : ∀ x ∈ xs, x = 0) : bval b xs = 0 := by
  induction xs with
  | nil => rfl
  | cons x l ih =>
    simp only [bval]
    rw [h x (List.mem_cons_self ..), ih (fun y hy => h y (List.mem_cons_of_mem _ hy))]; simp

/-- the digits of a number, none 0 at the end -/
def dig (b n : Nat) : List Nat := if _h : 2 ≤ b ∧ n ≠ 0 then n % b :: dig b (n / b) else []
termination_by n
decreasing_by exact Nat.div_lt_self (by omega) (by omega)

theorem dig_zero (b : Nat) : dig b 0 = [] := by unfold dig; simp
theorem dig_pos {b n : Nat} (hb : 2 ≤ b) (hn : n ≠ 0) : dig b n = n % b :: dig b (n / b) := by
  rw [dig, dif_pos ⟨hb, hn⟩]
theorem bval_dig {b : Nat} (hb : 2 ≤ b) (n : Nat) : bval b (dig b n) = n := by
  induction n using Nat.strongRecOn with
  | _ n ih =>
    by_cases hn : n = 0
    · subst hn; rw [dig_zero]; rfl
    · rw [dig_pos hb hn]
      simp only [bval]
      rw [ih (n / b) (Nat.div_lt_self (by omega) (by omega))]
      exact Nat.mod_add_div n b
theorem dig_lt {b : Nat} (hb : 2 ≤ b) (n : Nat) : ∀ x ∈ dig b n, x < b := by
  induction n using Nat.strongRecOn with
  | _ n ih =>
    by_cases hn : n = 0
    · subst hn; rw [dig_zero]; simp
    · rw [dig_pos hb hn]
      intro x hx
      rcases List.mem_cons.1 hx with rfl | hx
      · exact Nat.mod_lt _ (by omega)
      · exact ih (n / b) (Nat.div_lt_self (by omega) (by omega)) x hx
theorem dig_last {b : Nat} (hb : 2 ≤ b) (n : Nat) (hn : n ≠ 0) : (dig b n).length ≠ 0 ∧ (dig b n).getD ((dig b n).length - 1) 0 ≠ 0 := by
  induction n using Nat.strongRecOn with
  | _ n ih =>
    rw [dig_pos hb hn]
    refine ⟨by simp, ?_⟩
    by_cases hq : n / b = 0
    · rw [hq, dig_zero]
      simp only [List.length_cons, List.length_nil, Nat.zero_add, Nat.sub_self, List.getD_cons_zero]
      have : n < b := by
        rcases Nat.div_eq_zero_iff.1 hq with h | h
        · omega
        · exact h
      rw [Nat.mod_eq_of_lt this]; exact hn
    · have := ih (n / b) (Nat.div_lt_self (by omega) (by omega)) hq
      obtain ⟨m, hm⟩ : ∃ m, (dig b (n / b)).length = m + 1 := ⟨(dig b (n / b)).length - 1, by omega⟩
      rw [List.length_cons, hm]
      have h2 := this.2
      rw [hm] at h2
      simpa using h2

/-- a list of digits whose last one is not 0 is that of its number -/
theorem dig_unique {b : Nat} (hb : 2 ≤ b) (xs : List Nat) (h1 : ∀ x ∈ xs, x < b) (h2 : xs = [] ∨ xs.getD (xs.length - 1) 0 ≠ 0) : dig b (bval b xs) = xs := by
  induction xs with
  | nil => simp [bval, dig_zero]
  | cons x l ih =>
    have hx := h1 x (List.mem_cons_self ..)
    have hl : dig b (bval b l) = l := by
      refine ih (fun y hy => h1 y (List.mem_cons_of_mem _ hy)) ?_
      cases l with
      | nil => exact Or.inl rfl
      | cons y l' =>
        right
        rcases h2 with h2 | h2
        · cases h2
        · simpa using h2
    have hne : bval b (x :: l) ≠ 0 := by
      simp only [bval]
      intro k
      have hx0 : x = 0 := by omega
      have hb0 : b * bval b l = 0 := by omega
      have hl0 : bval b l = 0 := by
        rcases Nat.mul_eq_zero.1 hb0 with h | h
        · omega
        · exact h
      rw [hl0, dig_zero] at hl
      subst hl
      rcases h2 with h2 | h2
      · cases h2
      · simp [hx0] at h2
    rw [dig_pos hb hne]
    simp only [bval]
    rw [Nat.add_mul_mod_self_left, Nat.mod_eq_of_lt hx, Nat.add_mul_div_left _ _ (by omega), Nat.div_eq_of_lt hx, Nat.zero_add, hl]

theorem dig_len_le {b : Nat} (hb : 2 ≤ b) (n k : Nat) (h : n < b ^ k) : (dig b n).length ≤ k := by
  induction k generalizing n with
  | zero =>
    have : n = 0 := by simpa using h
    subst this; rw [dig_zero]; simp
  | succ k ih =>
    by_cases hn : n = 0
    · subst hn; rw [dig_zero]; simp
    · rw [dig_pos hb hn]
      have : n / b < b ^ k := by
        rw [Nat.div_lt_iff_lt_mul (by omega), ← Nat.pow_succ]; exact h
      have := ih _ this
      simpa using this
theorem lt_dig_len {b : Nat} (hb : 2 ≤ b) (n : Nat) : n < b ^ (dig b n).length := by
  have := bval_lt b (dig b n) (dig_lt hb n)
  rwa [bval_dig hb] at this
theorem dig_len_ge {b : Nat} (hb : 2 ≤ b) (n : Nat) (hn : n ≠ 0) : b ^ ((dig b n).length - 1) ≤ n := by
  induction n using Nat.strongRecOn with
  | _ n ih =>
    rw [dig_pos hb hn]
    by_cases hq : n / b = 0
    · rw [hq, dig_zero]; simp; omega
    · have h1 := ih (n / b) (Nat.div_lt_self (by omega) (by omega)) hq
      have h2 := (dig_last hb (n / b) hq).1
      obtain ⟨m, hm⟩ : ∃ m, (dig b (n / b)).length = m + 1 := ⟨(dig b (n / b)).length - 1, by omega⟩
      rw [hm] at h1
      rw [List.length_cons, hm]
      simp only [Nat.add_sub_cancel] at h1 ⊢
      rw [Nat.pow_succ]
      exact (Nat.le_div_iff_mul_le (by omega)).1 h1

/-- the list without noughts at its end -/
def trm (xs : List Nat) : List Nat := (xs.reverse.dropWhile (· == 0)).reverse
theorem trm_snoc_zero (xs : List Nat) : trm (xs ++ [0]) = trm xs := by simp [trm]
theorem trm_snoc_pos (xs : List Nat) (x : Nat) (h : x ≠ 0) : trm (xs ++ [x]) = xs ++ [x] := by simp [trm, h]
theorem trm_nil : trm [] = [] := rfl
theorem trm_cases (xs : List Nat) : trm xs = [] ∨ (trm xs).getD ((trm xs).length - 1) 0 ≠ 0 := by
  generalize hn : xs.length = n
  induction n generalizing xs with
  | zero => left; rw [List.eq_nil_of_length_eq_zero hn]; rfl
  | succ n ih =>
    have hne : xs ≠ [] := by rintro rfl; simp at hn
    rw [← List.dropLast_concat_getLast hne]
    by_cases h : xs.getLast hne = 0
    · rw [h, trm_snoc_zero]; exact ih _ (by simp [hn])
    · rw [trm_snoc_pos _ _ h]; right; simpa using h
theorem trm_spec (xs : List Nat) : ∃ m, xs = trm xs ++ List.replicate m 0 := by
  generalize hn : xs.length = n
  induction n generalizing xs with
  | zero => exact ⟨0, by rw [List.eq_nil_of_length_eq_zero hn]; rfl⟩
  | succ n ih =>
    have hne : xs ≠ [] := by rintro rfl; simp at hn
    by_cases h : xs.getLast hne = 0
    · obtain ⟨m, hm⟩ := ih xs.dropLast (by simp [hn])
      have e := List.dropLast_concat_getLast hne
      rw [h] at e
      refine ⟨m + 1, ?_⟩
      have e2 : trm xs = trm xs.dropLast := by
        conv => lhs; rw [← e]
        exact trm_snoc_zero _
      rw [e2, List.replicate_succ', ← List.append_assoc, ← hm, e]
    · refine ⟨0, ?_⟩
      have e := List.dropLast_concat_getLast hne
      have e2 : trm xs = xs := by
        conv => lhs; rw [← e]
        rw [trm_snoc_pos _ _ h, e]
      rw [e2]; simp
theorem trm_val (b : Nat) (xs : List Nat) : bval b (trm xs) = bval b xs := by
  obtain ⟨m, hm⟩ := trm_spec xs
  conv => rhs; rw [hm]
  rw [bval_append, bval_replicate]; simp
theorem trm_mem (xs : List Nat) (x : Nat) (h : x ∈ trm xs) : x ∈ xs := by
  obtain ⟨m, hm⟩ := trm_spec xs
  rw [hm]; exact List.mem_append_left _ h
theorem trm_len (xs : List Nat) : (trm xs).length ≤ xs.length := by
  obtain ⟨m, hm⟩ := trm_spec xs
  have := congrArg List.length hm
  rw [List.length_append] at this
  omega
theorem trm_take (xs : List Nat) : xs.take (trm xs).length = trm xs := by
  obtain ⟨m, hm⟩ := trm_spec xs
  have : (trm xs ++ List.replicate m 0).take (trm xs).length = trm xs := List.take_left
  rw [← hm] at this
  exact this
theorem trm_dig {b : Nat} (hb : 2 ≤ b) (xs : List Nat) (h : ∀ x ∈ xs, x < b) : trm xs = dig b (bval b xs) := by
  rw [← trm_val b xs, dig_unique hb _ (fun x hx => h x (trm_mem xs x hx)) (trm_cases xs)]
end Go.Proofs.YtgckfilmhnapeaaDoor

namespace Go.Proofs.YtgckfilmhnapeaaDoor
open Go.RowKit

/-- so many digits of a number, noughts at the end too -/
def digs (b n i : Nat) : List Nat := (List.range i).map fun k => n / b ^ k % b
theorem digs_len (b n i : Nat) : (digs b n i).length = i := by simp [digs]
theorem digs_succ (b n i : Nat) : digs b n (i + 1) = digs b n i ++ [n / b ^ i % b] := by simp [digs, List.range_succ]
theorem digs_zero (b n : Nat) : digs b n 0 = [] := rfl
theorem digs_lt (b n i : Nat) (hb : 0 < b) : ∀ x ∈ digs b n i, x < b := by
  intro x hx
  simp only [digs, List.mem_map] at hx
  obtain ⟨k, _, rfl⟩ := hx
  exact Nat.mod_lt _ hb
theorem digs_val (b n i : Nat) : bval b (digs b n i) = n % b ^ i := by
  induction i with
  | zero => simp [digs_zero, bval, Nat.mod_one]
  | succ i ih =>
    rw [digs_succ, bval_snoc, ih, digs_len, Nat.pow_succ]
    exact (Nat.mod_mul).symm
theorem digs_all (b n i : Nat) (h : n < b ^ i) : bval b (digs b n i) = n := by rw [digs_val, Nat.mod_eq_of_lt h]

theorem dig_getD (n k : Nat) : (dig 256 n).getD k 0 = n / 256 ^ k % 256 := by
  have key : ∀ k n, (dig 256 n).getD k 0 = n / 256 ^ k % 256 := by
    intro k
    induction k with
    | zero =>
      intro n
      by_cases hn : n = 0
      · subst hn; rw [dig_zero]; rfl
      · rw [dig_pos (by decide) hn]; simp
    | succ k ih =>
      intro n
      by_cases hn : n = 0
      · subst hn; rw [dig_zero, Nat.zero_div]; simp
      · rw [dig_pos (by decide) hn, List.getD_cons_succ, ih, Nat.div_div_eq_div_mul, Nat.pow_succ, Nat.mul_comm 256]
  exact key k n

theorem pow_pos256 (i : Nat) : 0 < 256 ^ i := Nat.pow_pos (by decide)
/-- a sum's carry at a place -/
def carry (a b i : Nat) : Nat := (a % 256 ^ i + b % 256 ^ i) / 256 ^ i
theorem carry_eq (a b i : Nat) : (a + b) / 256 ^ i = a / 256 ^ i + b / 256 ^ i + carry a b i := by
  have hp := pow_pos256 i
  unfold carry
  have h1 := Nat.div_add_mod a (256 ^ i)
  have h2 := Nat.div_add_mod b (256 ^ i)
  generalize 256 ^ i = P at *
  have : a + b = P * (a / P + b / P) + (a % P + b % P) := by rw [Nat.mul_add]; omega
  conv => lhs; rw [this]
  rw [Nat.mul_add_div hp]
theorem carry_le (a b i : Nat) : carry a b i ≤ 1 := by
  have hp := pow_pos256 i
  unfold carry
  have h1 := Nat.mod_lt a hp
  have h2 := Nat.mod_lt b hp
  generalize 256 ^ i = P at *
  have : (a % P + b % P) / P < 2 := (Nat.div_lt_iff_lt_mul hp).2 (by omega)
  omega
theorem carry_zero (a b : Nat) : carry a b 0 = 0 := by simp [carry, Nat.mod_one]
theorem div_succ (a i : Nat) : a / 256 ^ (i + 1) = a / 256 ^ i / 256 := by rw [Nat.pow_succ, Nat.div_div_eq_div_mul]
theorem carry_step (a b i : Nat) : (a / 256 ^ i % 256 + b / 256 ^ i % 256 + carry a b i) % 256 = (a + b) / 256 ^ i % 256 ∧ (a / 256 ^ i % 256 + b / 256 ^ i % 256 + carry a b i) / 256 = carry a b (i + 1) := by
  have h := carry_eq a b i
  have h2 := carry_eq a b (i + 1)
  rw [div_succ, div_succ, div_succ, h] at h2
  rw [h]
  generalize a / 256 ^ i = x at *
  generalize b / 256 ^ i = y at *
  generalize carry a b i = c at *
  generalize carry a b (i + 1) = d at *
  omega
/-- a difference's borrow -/
theorem borrow_step (m d i : Nat) : let x := (m + d) / 256 ^ i % 256; let y := m / 256 ^ i % 256; let c := carry m d i
    (x < y + c → d / 256 ^ i % 256 + y + c = x + 256 ∧ carry m d (i + 1) = 1) ∧ (y + c ≤ x → d / 256 ^ i % 256 + y + c = x ∧ carry m d (i + 1) = 0) := by
  intro x y c
  have h := carry_step m d i
  have hc := carry_le m d (i + 1)
  have hx : x = (m + d) / 256 ^ i % 256 := rfl
  have hy : y = m / 256 ^ i % 256 := rfl
  have hcc : c = carry m d i := rfl
  rw [← hx, ← hy, ← hcc] at h
  have b1 : d / 256 ^ i % 256 < 256 := Nat.mod_lt _ (by decide)
  generalize d / 256 ^ i % 256 = z at *
  generalize carry m d (i + 1) = c2 at *
  clear_value x y c
  constructor
  · intro h1
    omega
  · intro h1
    omega
/-- the carry of a product with a small number -/
def pcarry (n p i : Nat) : Nat := n % 256 ^ i * p / 256 ^ i
theorem pcarry_eq (n p i : Nat) : n * p / 256 ^ i = n / 256 ^ i * p + pcarry n p i := by
  have hp := pow_pos256 i
  unfold pcarry
  have h1 := Nat.div_add_mod n (256 ^ i)
  generalize 256 ^ i = P at *
  have : n * p = P * (n / P * p) + n % P * p := by
    conv => lhs; rw [← h1]
    rw [Nat.add_mul, Nat.mul_assoc]
  conv => lhs; rw [this]
  rw [Nat.mul_add_div hp]
theorem pcarry_lt (n p i : Nat) (h : 0 < p) : pcarry n p i < p := by
  have hp := pow_pos256 i
  unfold pcarry
  rw [Nat.div_lt_iff_lt_mul hp, Nat.mul_comm p]
  exact Nat.mul_lt_mul_of_pos_right (Nat.mod_lt n hp) h
theorem pcarry_zero (n p : Nat) : pcarry n p 0 = 0 := by simp [pcarry, Nat.mod_one]
theorem pcarry_step (n p i : Nat) : (n / 256 ^ i % 256 * p + pcarry n p i) % 256 = n * p / 256 ^ i % 256 ∧ (n / 256 ^ i % 256 * p + pcarry n p i) / 256 = pcarry n p (i + 1) := by
  have h := pcarry_eq n p i
  have h2 := pcarry_eq n p (i + 1)
  rw [div_succ, div_succ, h] at h2
  rw [h]
  generalize n / 256 ^ i = x at *
  generalize pcarry n p i = c at *
  generalize pcarry n p (i + 1) = d at *
  have hx := Nat.div_add_mod x 256
  have e : x * p = 256 * (x / 256 * p) + x % 256 * p := by
    conv => lhs; rw [← hx]
    rw [Nat.add_mul, Nat.mul_assoc]
  generalize x / 256 * p = u at *
  generalize x % 256 * p = v at *
  omega

/-- how many bits a number has -/
def blen (n : Nat) : Nat := if n = 0 then 0 else n.log2 + 1
theorem blen_zero : blen 0 = 0 := rfl
theorem blen_iff (n k : Nat) : blen n ≤ k ↔ n < 2 ^ k := by
  unfold blen
  by_cases hn : n = 0
  · subst hn; simp [Nat.two_pow_pos]
  · rw [if_neg hn]
    rw [← Nat.log2_lt hn]; omega
theorem blen_half (n : Nat) (hn : n ≠ 0) : blen n = blen (n / 2) + 1 := by
  apply Nat.le_antisymm
  · rw [blen_iff, Nat.pow_succ]
    have := (blen_iff (n / 2) (blen (n / 2))).1 (Nat.le_refl _)
    omega
  · have h0 : blen n ≠ 0 := by unfold blen; rw [if_neg hn]; omega
    obtain ⟨k, hk⟩ : ∃ k, blen n = k + 1 := ⟨blen n - 1, by omega⟩
    have h1 := (blen_iff n (k + 1)).1 (by omega)
    rw [Nat.pow_succ] at h1
    have : blen (n / 2) ≤ k := (blen_iff _ _).2 (by omega)
    omega
theorem blen_shift (n k : Nat) (h : n / 2 ^ k ≠ 0) : blen n = blen (n / 2 ^ k) + k := by
  induction k generalizing n with
  | zero => simp
  | succ k ih =>
    have hn : n ≠ 0 := by rintro rfl; simp at h
    have h2 : n / 2 / 2 ^ k ≠ 0 := by rwa [Nat.div_div_eq_div_mul, Nat.mul_comm, ← Nat.pow_succ]
    rw [blen_half n hn, ih (n / 2) h2, Nat.div_div_eq_div_mul, Nat.mul_comm 2, ← Nat.pow_succ, Nat.add_assoc]
theorem dig_top (n : Nat) (hn : n ≠ 0) : (dig 256 n).getD ((dig 256 n).length - 1) 0 = n / 256 ^ ((dig 256 n).length - 1) ∧ n / 256 ^ ((dig 256 n).length - 1) ≠ 0 := by
  have h1 := (dig_last (b := 256) (by decide) n hn)
  rw [dig_getD] at h1 ⊢
  have h2 := lt_dig_len (b := 256) (by decide) n
  obtain ⟨m, hm⟩ : ∃ m, (dig 256 n).length = m + 1 := ⟨(dig 256 n).length - 1, by omega⟩
  rw [hm] at h1 h2 ⊢
  simp only [Nat.add_sub_cancel] at h1 ⊢
  have h3 : n / 256 ^ m < 256 := by
    rw [Nat.div_lt_iff_lt_mul (pow_pos256 m), Nat.mul_comm, ← Nat.pow_succ]; exact h2
  rw [Nat.mod_eq_of_lt h3] at h1 ⊢
  exact ⟨rfl, h1.2⟩
theorem blen_top (n : Nat) (hn : n ≠ 0) : 8 * ((dig 256 n).length - 1) + blen (n / 256 ^ ((dig 256 n).length - 1)) = blen n := by
  have h := (dig_top n hn).2
  have e : 256 ^ ((dig 256 n).length - 1) = 2 ^ (8 * ((dig 256 n).length - 1)) := by rw [Nat.pow_mul]
  rw [e] at h ⊢
  rw [blen_shift n _ h]; omega

/-- -1, 0 or 1 -/
def cmpZ (n m : Nat) : Int := if n < m then -1 else if m < n then 1 else 0
theorem len_lt_lt (n m : Nat) (h : (dig 256 n).length < (dig 256 m).length) : n < m := by
  have h1 := lt_dig_len (b := 256) (by decide) n
  have hm : m ≠ 0 := by rintro rfl; rw [dig_zero] at h; simp at h
  have h2 := dig_len_ge (b := 256) (by decide) m hm
  have h3 : 256 ^ (dig 256 n).length ≤ 256 ^ ((dig 256 m).length - 1) := Nat.pow_le_pow_right (by decide) (by omega)
  omega
theorem digit_lt (n m j : Nat) (h : n / 256 ^ (j + 1) = m / 256 ^ (j + 1)) (hd : n / 256 ^ j % 256 < m / 256 ^ j % 256) : n < m := by
  rw [div_succ, div_succ] at h
  have h1 : n / 256 ^ j < m / 256 ^ j := by omega
  rcases Nat.lt_or_ge n m with g | g
  · exact g
  · have := Nat.div_le_div_right (c := 256 ^ j) g; omega
theorem digit_eq (n m j : Nat) (h : n / 256 ^ (j + 1) = m / 256 ^ (j + 1)) (hd : n / 256 ^ j % 256 = m / 256 ^ j % 256) : n / 256 ^ j = m / 256 ^ j := by
  rw [div_succ, div_succ] at h
  omega

/-- a digit of what is divided by 2^n -/
theorem shr_digit (N k r : Nat) (hr : r < 8) : (N / 256 ^ k % 256 + 256 * (N / 256 ^ (k + 1) % 256)) / 2 ^ r % 256 = N / 256 ^ k / 2 ^ r % 256 := by
  rw [div_succ]
  generalize N / 256 ^ k = x
  have : r = 0 ∨ r = 1 ∨ r = 2 ∨ r = 3 ∨ r = 4 ∨ r = 5 ∨ r = 6 ∨ r = 7 := by omega
  rcases this with rfl | rfl | rfl | rfl | rfl | rfl | rfl | rfl <;> simp only [Nat.reducePow] <;> omega
end Go.Proofs.YtgckfilmhnapeaaDoor

namespace Go.Proofs.YtgckfilmhnapeaaDoor
open Go.RowKit

theorem dig_getDL (n k : Nat) : (dig 4294967296 n).getD k 0 = n / 4294967296 ^ k % 4294967296 := by
  have key : ∀ k n, (dig 4294967296 n).getD k 0 = n / 4294967296 ^ k % 4294967296 := by
    intro k
    induction k with
    | zero =>
      intro n
      by_cases hn : n = 0
      · subst hn; rw [dig_zero]; rfl
      · rw [dig_pos (by decide) hn]; simp
    | succ k ih =>
      intro n
      by_cases hn : n = 0
      · subst hn; rw [dig_zero, Nat.zero_div]; simp
      · rw [dig_pos (by decide) hn, List.getD_cons_succ, ih, Nat.div_div_eq_div_mul, Nat.pow_succ, Nat.mul_comm 4294967296]
  exact key k n

theorem pow_posL (i : Nat) : 0 < 4294967296 ^ i := Nat.pow_pos (by decide)
/-- a sum's carryL at a place -/
def carryL (a b i : Nat) : Nat := (a % 4294967296 ^ i + b % 4294967296 ^ i) / 4294967296 ^ i
theorem carry_eqL (a b i : Nat) : (a + b) / 4294967296 ^ i = a / 4294967296 ^ i + b / 4294967296 ^ i + carryL a b i := by
  have hp := pow_posL i
  unfold carryL
  have h1 := Nat.div_add_mod a (4294967296 ^ i)
  have h2 := Nat.div_add_mod b (4294967296 ^ i)
  generalize 4294967296 ^ i = P at *
  have : a + b = P * (a / P + b / P) + (a % P + b % P) := by rw [Nat.mul_add]; omega
  conv => lhs; rw [this]
  rw [Nat.mul_add_div hp]
theorem carry_leL (a b i : Nat) : carryL a b i ≤ 1 := by
  have hp := pow_posL i
  unfold carryL
  have h1 := Nat.mod_lt a hp
  have h2 := Nat.mod_lt b hp
  generalize 4294967296 ^ i = P at *
  have : (a % P + b % P) / P < 2 := (Nat.div_lt_iff_lt_mul hp).2 (by omega)
  omega
theorem carry_zeroL (a b : Nat) : carryL a b 0 = 0 := by simp [carryL, Nat.mod_one]
theorem div_succL (a i : Nat) : a / 4294967296 ^ (i + 1) = a / 4294967296 ^ i / 4294967296 := by rw [Nat.pow_succ, Nat.div_div_eq_div_mul]
theorem carry_stepL (a b i : Nat) : (a / 4294967296 ^ i % 4294967296 + b / 4294967296 ^ i % 4294967296 + carryL a b i) % 4294967296 = (a + b) / 4294967296 ^ i % 4294967296 ∧ (a / 4294967296 ^ i % 4294967296 + b / 4294967296 ^ i % 4294967296 + carryL a b i) / 4294967296 = carryL a b (i + 1) := by
  have h := carry_eqL a b i
  have h2 := carry_eqL a b (i + 1)
  rw [div_succL, div_succL, div_succL, h] at h2
  rw [h]
  generalize a / 4294967296 ^ i = x at *
  generalize b / 4294967296 ^ i = y at *
  generalize carryL a b i = c at *
  generalize carryL a b (i + 1) = d at *
  omega
/-- a difference's borrow -/
theorem borrow_stepL (m d i : Nat) : let x := (m + d) / 4294967296 ^ i % 4294967296; let y := m / 4294967296 ^ i % 4294967296; let c := carryL m d i
    (x < y + c → d / 4294967296 ^ i % 4294967296 + y + c = x + 4294967296 ∧ carryL m d (i + 1) = 1) ∧ (y + c ≤ x → d / 4294967296 ^ i % 4294967296 + y + c = x ∧ carryL m d (i + 1) = 0) := by
  intro x y c
  have h := carry_stepL m d i
  have hc := carry_leL m d (i + 1)
  have hx : x = (m + d) / 4294967296 ^ i % 4294967296 := rfl
  have hy : y = m / 4294967296 ^ i % 4294967296 := rfl
  have hcc : c = carryL m d i := rfl
  rw [← hx, ← hy, ← hcc] at h
  have b1 : d / 4294967296 ^ i % 4294967296 < 4294967296 := Nat.mod_lt _ (by decide)
  generalize d / 4294967296 ^ i % 4294967296 = z at *
  generalize carryL m d (i + 1) = c2 at *
  clear_value x y c
  constructor
  · intro h1
    omega
  · intro h1
    omega
/-- the carryL of a product with a small number -/
def pcarryL (n p i : Nat) : Nat := n % 4294967296 ^ i * p / 4294967296 ^ i
theorem pcarry_eqL (n p i : Nat) : n * p / 4294967296 ^ i = n / 4294967296 ^ i * p + pcarryL n p i := by
  have hp := pow_posL i
  unfold pcarryL
  have h1 := Nat.div_add_mod n (4294967296 ^ i)
  generalize 4294967296 ^ i = P at *
  have : n * p = P * (n / P * p) + n % P * p := by
    conv => lhs; rw [← h1]
    rw [Nat.add_mul, Nat.mul_assoc]
  conv => lhs; rw [this]
  rw [Nat.mul_add_div hp]
theorem pcarry_ltL (n p i : Nat) (h : 0 < p) : pcarryL n p i < p := by
  have hp := pow_posL i
  unfold pcarryL
  rw [Nat.div_lt_iff_lt_mul hp, Nat.mul_comm p]
  exact Nat.mul_lt_mul_of_pos_right (Nat.mod_lt n hp) h
theorem pcarry_zeroL (n p : Nat) : pcarryL n p 0 = 0 := by simp [pcarryL, Nat.mod_one]
theorem pcarry_stepL (n p i : Nat) : (n / 4294967296 ^ i % 4294967296 * p + pcarryL n p i) % 4294967296 = n * p / 4294967296 ^ i % 4294967296 ∧ (n / 4294967296 ^ i % 4294967296 * p + pcarryL n p i) / 4294967296 = pcarryL n p (i + 1) := by
  have h := pcarry_eqL n p i
  have h2 := pcarry_eqL n p (i + 1)
  rw [div_succL, div_succL, h] at h2
  rw [h]
  generalize n / 4294967296 ^ i = x at *
  generalize pcarryL n p i = c at *
  generalize pcarryL n p (i + 1) = d at *
  have hx := Nat.div_add_mod x 4294967296
  have e : x * p = 4294967296 * (x / 4294967296 * p) + x % 4294967296 * p := by
    conv => lhs; rw [← hx]
    rw [Nat.add_mul, Nat.mul_assoc]
  generalize x / 4294967296 * p = u at *
  generalize x % 4294967296 * p = v at *
  omega

theorem dig_topL (n : Nat) (hn : n ≠ 0) : (dig 4294967296 n).getD ((dig 4294967296 n).length - 1) 0 = n / 4294967296 ^ ((dig 4294967296 n).length - 1) ∧ n / 4294967296 ^ ((dig 4294967296 n).length - 1) ≠ 0 := by
  have h1 := (dig_last (b := 4294967296) (by decide) n hn)
  rw [dig_getDL] at h1 ⊢
  have h2 := lt_dig_len (b := 4294967296) (by decide) n
  obtain ⟨m, hm⟩ : ∃ m, (dig 4294967296 n).length = m + 1 := ⟨(dig 4294967296 n).length - 1, by omega⟩
  rw [hm] at h1 h2 ⊢
  simp only [Nat.add_sub_cancel] at h1 ⊢
  have h3 : n / 4294967296 ^ m < 4294967296 := by
    rw [Nat.div_lt_iff_lt_mul (pow_posL m), Nat.mul_comm, ← Nat.pow_succ]; exact h2
  rw [Nat.mod_eq_of_lt h3] at h1 ⊢
  exact ⟨rfl, h1.2⟩
theorem len_lt_ltL (n m : Nat) (h : (dig 4294967296 n).length < (dig 4294967296 m).length) : n < m := by
  have h1 := lt_dig_len (b := 4294967296) (by decide) n
  have hm : m ≠ 0 := by rintro rfl; rw [dig_zero] at h; simp at h
  have h2 := dig_len_ge (b := 4294967296) (by decide) m hm
  have h3 : 4294967296 ^ (dig 4294967296 n).length ≤ 4294967296 ^ ((dig 4294967296 m).length - 1) := Nat.pow_le_pow_right (by decide) (by omega)
  omega
theorem digit_ltL (n m j : Nat) (h : n / 4294967296 ^ (j + 1) = m / 4294967296 ^ (j + 1)) (hd : n / 4294967296 ^ j % 4294967296 < m / 4294967296 ^ j % 4294967296) : n < m := by
  rw [div_succL, div_succL] at h
  have h1 : n / 4294967296 ^ j < m / 4294967296 ^ j := by omega
  rcases Nat.lt_or_ge n m with g | g
  · exact g
  · have := Nat.div_le_div_right (c := 4294967296 ^ j) g; omega
theorem digit_eqL (n m j : Nat) (h : n / 4294967296 ^ (j + 1) = m / 4294967296 ^ (j + 1)) (hd : n / 4294967296 ^ j % 4294967296 = m / 4294967296 ^ j % 4294967296) : n / 4294967296 ^ j = m / 4294967296 ^ j := by
  rw [div_succL, div_succL] at h
  omega

end Go.Proofs.YtgckfilmhnapeaaDoor
