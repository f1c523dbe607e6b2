/- The program's decimal: all digits of a pattern, what all widths share. -/
import Derived.Test.YtgckfilmhnapeaaDoorDr0
namespace Go.Proofs.YtgckfilmhnapeaaDoor
open Go.RowKit Go.Lib
set_option linter.unusedVariables false

/-- what Exact tells of a size -/
def ExPost (f l inf : Nat) (neg : Bool) (sz : Nat) (w : World) (e : Ending) (w' : World) : Prop :=
  Below w.heap.size w w' ∧ ((inf ≤ sz ∧ e = .returned (.tuple #[.agg #[.bool false, .string ⟨#[]⟩, .int .i64 0], .bool false])) ∨
    (sz = 0 ∧ e = .returned (.tuple #[.agg #[.bool neg, .string ⟨#[]⟩, .int .i64 0], .bool true])) ∨
    (sz < inf ∧ sz ≠ 0 ∧ ∃ N k : Nat, e = .returned (.tuple #[.agg #[.bool neg, .string (plainS (digitsS N)), .int .i64 (((digitsS N).size : Int) - (k : Int))], .bool true]) ∧ N ≠ 0 ∧ N * 2 ^ l = pv f sz * 10 ^ k))
theorem ex_up (u z l j P : Nat) (h : (2 * u + 1) * 2 ^ z = P) (hz : z = l + j) : (2 * u + 1) * 2 ^ j * 2 ^ l = P * 10 ^ 0 := by
  rw [← h, hz, Nat.pow_zero, Nat.mul_one, Nat.mul_assoc, ← Nat.pow_add, Nat.add_comm j l]
theorem ex_down (u z l k P : Nat) (h : (2 * u + 1) * 2 ^ z = P) (hz : l = z + k) : (2 * u + 1) * 5 ^ k * 2 ^ l = P * 10 ^ k := by
  rw [← h, hz, show (10 : Nat) = 5 * 2 from rfl, Nat.mul_pow, Nat.pow_add, Nat.mul_assoc, Nat.mul_assoc]
  congr 1
  rw [Nat.mul_left_comm, Nat.mul_left_comm (2 ^ z)]
theorem z_bound (u z f W sz : Nat) (h : (2 * u + 1) * 2 ^ z = pv f sz) (hs : sz < (W + 1) * 2 ^ f) : z < f + W ∧ 2 * u + 1 < 2 ^ (f + W) := by
  have h1 := pv_lt f hs
  rw [pv_inf, ← Nat.pow_add, ← h] at h1
  have hp := Nat.two_pow_pos z
  constructor
  · rcases Nat.lt_or_ge z (f + W) with g | g
    · exact g
    · have h2 : 2 ^ (f + W) ≤ 2 ^ z := Nat.pow_le_pow_right (by decide) g
      have h3 : 1 * 2 ^ z ≤ (2 * u + 1) * 2 ^ z := Nat.mul_le_mul_right _ (by omega)
      omega
  · exact Nat.lt_of_le_of_lt (Nat.le_mul_of_pos_right _ hp) h1
theorem enough_of (N n : Nat) (h : blen N ≤ n) : Enough N n := by
  unfold Enough
  apply Nat.div_eq_of_lt
  have h1 : N < 2 ^ n := (blen_iff N n).1 h
  exact Nat.lt_of_lt_of_le h1 (Nat.pow_le_pow_left (by decide) n)
/-- all digits of a number: their bytes, their number -/
theorem dtext_mem (N : Nat) : ∀ x ∈ dtext N, 48 ≤ x ∧ x ≤ 57 := by
  intro x hx
  unfold dtext at hx
  rw [List.mem_reverse] at hx
  obtain ⟨y, hy, rfl⟩ := List.mem_map.1 hx
  have := dig_lt (b := 10) (by decide) N y hy
  omega
theorem digitsS_list (N : Nat) (h : N ≠ 0) : (digitsS N).data.toList = (dtext N).map UInt8.ofNat := by
  unfold digitsS
  rw [if_neg h]
  simp [strOf]
theorem ofNat_small (x : Nat) (h : x < 256) : (UInt8.ofNat x).toNat = x := by
  rw [UInt8.toNat_ofNat']
  exact Nat.mod_eq_of_lt h
theorem digitsS_fine (N : Nat) (h : N ≠ 0) : fineL (digitsS N).data.toList = true := by
  rw [digitsS_list N h]
  unfold fineL
  rw [List.all_eq_true]
  intro c hc
  obtain ⟨x, hx, rfl⟩ := List.mem_map.1 hc
  have := dtext_mem N x hx
  unfold dgB
  rw [ofNat_small x (by omega)]
  simp; omega
theorem nval_dtext (N : Nat) : nval ((dtext N).map UInt8.ofNat) = N := by
  have key : ∀ l : List Nat, (∀ x ∈ l, x < 10) → nval (((l.map (48 + ·)).reverse).map UInt8.ofNat) = bval 10 l := by
    intro l
    induction l with
    | nil => intro _; rfl
    | cons a l ih =>
      intro h
      rw [List.map_cons, List.reverse_cons, List.map_append, List.map_cons, List.map_nil, nval_snoc, ih (fun x hx => h x (by simp [hx]))]
      have := h a (by simp)
      rw [ofNat_small _ (by omega)]
      show bval 10 l * 10 + (48 + a - 48) = a + 10 * bval 10 l
      omega
  have := key (dig 10 N) (dig_lt (by decide) N)
  rw [bval_dig (by decide)] at this
  exact this
theorem nval_digitsS (N : Nat) (h : N ≠ 0) : nval (digitsS N).data.toList = N := by rw [digitsS_list N h, nval_dtext]
theorem digitsS_first (N : Nat) (h : N ≠ 0) : ∃ c r, (digitsS N).data.toList = c :: r ∧ c ≠ 48 := by
  have hl := dig_last (b := 10) (by decide) N h
  have hne : dig 10 N ≠ [] := by intro e; rw [e] at hl; exact hl.1 rfl
  obtain ⟨x, c, hxc⟩ : ∃ x c, dig 10 N = x ++ [c] := ⟨_, _, (List.dropLast_concat_getLast hne).symm⟩
  have hc : c ≠ 0 := by
    have := hl.2
    rw [hxc] at this
    simpa using this
  have hc10 : c < 10 := dig_lt (by decide) N c (by rw [hxc]; simp)
  refine ⟨UInt8.ofNat (48 + c), ((x.map (48 + ·)).reverse).map UInt8.ofNat, ?_, ?_⟩
  · rw [digitsS_list N h]
    unfold dtext
    rw [hxc, List.map_append, List.reverse_append, List.map_append]
    rfl
  · intro e
    have := congrArg UInt8.toNat e
    rw [ofNat_small _ (by omega)] at this
    have h48 : UInt8.toNat 48 = 48 := rfl
    omega
theorem digitsS_lead (N : Nat) (h : N ≠ 0) : trimLeftB (digitsS N).data.toList 48 = (digitsS N).data.toList ∧ leadL (digitsS N).data.toList = 0 := by
  obtain ⟨c, r, e, hc⟩ := digitsS_first N h
  have h1 : trimLeftB (digitsS N).data.toList 48 = (digitsS N).data.toList := by
    unfold trimLeftB
    rw [e]; simp [hc]
  exact ⟨h1, by unfold leadL; rw [h1]; omega⟩
theorem ll_of_blen (m k : Nat) (h : blen m ≤ 32 * k) : ll m ≤ k := ll_two m k (Nat.lt_of_lt_of_le (lt_blen m) (Nat.pow_le_pow_right (by decide) h))
theorem u_small (f u z sz : Nat) (h : (2 * u + 1) * 2 ^ z = pv f sz) : 2 * u + 1 < 2 ^ (f + 1) := by
  obtain ⟨k, c, h1, h2, h3, -⟩ := size_parts f sz
  rw [h1, pv_of f k c (Nat.le_of_lt h2) h3] at h
  rcases Nat.lt_or_ge z k with g | g
  · exfalso
    obtain ⟨d, rfl⟩ : ∃ d, k = z + (d + 1) := ⟨k - z - 1, by omega⟩
    rw [Nat.pow_add, Nat.mul_left_comm, Nat.mul_comm] at h
    have h4 := Nat.eq_of_mul_eq_mul_left (Nat.two_pow_pos z) h
    rw [Nat.pow_succ, ← Nat.mul_assoc] at h4
    omega
  · obtain ⟨d, rfl⟩ : ∃ d, z = k + d := ⟨z - k, by omega⟩
    rw [Nat.pow_add, Nat.mul_left_comm, Nat.mul_comm c] at h
    have h4 := Nat.eq_of_mul_eq_mul_left (Nat.two_pow_pos k) h
    have := Nat.le_mul_of_pos_right (2 * u + 1) (Nat.two_pow_pos d)
    omega
theorem ll_five (m k n : Nat) (h : blen m + 3 * k ≤ 32 * n) : ll (m * 5 ^ k) ≤ n := by
  refine ll_two _ n ?_
  have h1 : (5 : Nat) ^ k ≤ 8 ^ k := Nat.pow_le_pow_left (by decide) k
  have h2 : (8 : Nat) ^ k = 2 ^ (3 * k) := by rw [Nat.pow_mul]
  rw [h2] at h1
  have h3 := Nat.mul_lt_mul_of_pos_right (lt_blen m) (Nat.two_pow_pos (3 * k))
  rw [← Nat.pow_add] at h3
  exact Nat.lt_of_le_of_lt (Nat.mul_le_mul_left _ h1) (Nat.lt_of_lt_of_le h3 (Nat.pow_le_pow_right (by decide) h))
theorem digitsS_size (N : Nat) (h : N ≠ 0) : (digitsS N).size = (dig 10 N).length := by
  rw [← bytes_len, digitsS_list N h]
  unfold dtext
  rw [List.length_map, List.length_reverse, List.length_map]
theorem lt_of_enough (N n : Nat) (h : Enough N n) : N < 10 ^ n := by
  unfold Enough at h
  rcases Nat.lt_or_ge N (10 ^ n) with g | g
  · exact g
  · have := Nat.div_pos g (ten_pos n); omega
theorem trim_digits (N : Nat) (h : N ≠ 0) (hs : (digitsS N).size ≤ 9223372036854775807) (w : World) :
    Calls Tryd.prog 62 #[.string (digitsS N), .string ⟨#[48]⟩] w fun e w' => e = .returned (.string (plainS (digitsS N))) ∧ w' = w := by
  refine (Tryd.strings_TrimRight_one (digitsS N) 48 (by decide) w hs).mono ?_
  rintro e w' ⟨rfl, rfl⟩
  refine ⟨?_, rfl⟩
  unfold plainS plainL
  rw [(digitsS_lead N h).1]
theorem retx {neg : Bool} {s : ByteArray} {a b : Int} {ok : Bool} (h : a = b) : Ending.returned (.tuple #[.agg #[.bool neg, .string s, .int .i64 a], .bool ok]) = .returned (.tuple #[.agg #[.bool neg, .string s, .int .i64 b], .bool ok]) := by rw [h]
end Go.Proofs.YtgckfilmhnapeaaDoor
