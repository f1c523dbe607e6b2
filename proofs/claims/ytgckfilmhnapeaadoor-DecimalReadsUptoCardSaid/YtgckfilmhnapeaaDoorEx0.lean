/- What Round hands back. -/
import Derived.Test.YtgckfilmhnapeaaDoorIe0
import Derived.Test.YtgckfilmhnapeaaDoorFp6
import Derived.Test.YtgckfilmhnapeaaDoorDec3
namespace Go.Proofs.YtgckfilmhnapeaaDoor
open Go.RowKit
set_option linter.unusedVariables false
/-- the nearest pattern to m times 2^e, with a sign -/
def RoundPost (k : IntKind) (f l W sign : Nat) (neg : Bool) (m : Nat) (e : Int) (w : World) (en : Ending) (w' : World) : Prop :=
  ∃ s : Nat, en = .returned (.int k (sgnN neg s sign : Nat)) ∧ Near f ((W + 1) * 2 ^ f) s (m * 2 ^ (e + l).toNat) (2 ^ (-(e + l)).toNat) ∧ Below w.heap.size w w'
theorem blen_of_ll (X k : Nat) (h : ll X ≤ k) : blen X ≤ 32 * k := by
  rw [blen_iff]
  have h1 := lt_powL X
  rw [powL] at h1
  exact Nat.lt_of_lt_of_le h1 (Nat.pow_le_pow_right (by decide) (by omega))
theorem near_hi (f W l m : Nat) (e : Int) (hm : m ≠ 0) (h : (f : Int) + W ≤ e + l) : Near f ((W + 1) * 2 ^ f) ((W + 1) * 2 ^ f) (m * 2 ^ (e + l).toNat) (2 ^ (-(e + l)).toNat) :=
  near_far f W _ _ (by
    rw [← Nat.pow_add]
    refine Nat.le_trans (Nat.pow_le_pow_right (by decide) (show f + W + (-(e + l)).toNat ≤ (e + l).toNat by omega)) ?_
    exact Nat.le_mul_of_pos_left _ (by omega)) (Nat.two_pow_pos _)
theorem near_lo (f W l m n : Nat) (e : Int) (hm : m < 2 ^ (n + 1)) (h : (n : Int) + 2 ≤ -(e + l)) : Near f ((W + 1) * 2 ^ f) 0 (m * 2 ^ (e + l).toNat) (2 ^ (-(e + l)).toNat) := by
  refine near_zero _ _ _ _ (Nat.pos_iff_ne_zero.1 (Nat.mul_pos (Nat.succ_pos W) (Nat.two_pow_pos f))) ?_
  rw [show (e + l).toNat = 0 by omega, Nat.pow_zero, Nat.mul_one]
  refine Nat.le_trans ?_ (Nat.pow_le_pow_right (by decide) (show n + 2 ≤ (-(e + l)).toNat by omega))
  rw [Nat.pow_succ]
  omega
theorem near_none (f W B : Nat) (e : Nat) : Near f ((W + 1) * 2 ^ f) 0 (0 * 2 ^ e) B :=
  near_zero _ _ _ _ (Nat.pos_iff_ne_zero.1 (Nat.mul_pos (Nat.succ_pos W) (Nat.two_pow_pos f))) (by rw [Nat.zero_mul]; exact Nat.zero_le _)
/-- twice the number, a power less -/
theorem near_twice (f W l m : Nat) (e : Int) {s : Nat} (h : Near f ((W + 1) * 2 ^ f) s (m * 2 ^ (e + l).toNat) (2 ^ (-(e + l)).toNat)) :
    Near f ((W + 1) * 2 ^ f) s ((2 * m) * 2 ^ (e - 1 + l).toNat) (2 ^ (-(e - 1 + l)).toNat) := by
  refine h.scale (Nat.two_pow_pos _) (Nat.two_pow_pos _) ?_
  rw [Nat.mul_assoc, ← Nat.pow_add, Nat.mul_assoc, ← Nat.pow_add, Nat.mul_comm 2 m, Nat.mul_assoc, ← Nat.pow_add_one']
  congr 2
  omega
theorem ll_twice1 (X k : Nat) (h : ll X ≤ k) : ll (X + X + 1) ≤ k + 2 := by
  refine ll_le _ _ ?_
  have h1 := lt_powL X
  have h2 : 4294967296 ^ ll X ≤ 4294967296 ^ k := Nat.pow_le_pow_right (by decide) h
  rw [Nat.pow_succ, Nat.pow_succ]
  omega
theorem ll_twice (X k : Nat) (h : ll X ≤ k) : ll (X + X) ≤ k + 1 := by
  refine ll_le _ _ ?_
  have h1 := lt_powL X
  have h2 : 4294967296 ^ ll X ≤ 4294967296 ^ k := Nat.pow_le_pow_right (by decide) h
  rw [Nat.pow_succ]
  omega
theorem blen_odd (X : Nat) : blen (2 * X + 1) = blen X + 1 := by
  rw [blen_half (2 * X + 1) (by omega), show (2 * X + 1) / 2 = X by omega]
end Go.Proofs.YtgckfilmhnapeaaDoor

namespace Go.Proofs.YtgckfilmhnapeaaDoor
open Go.RowKit Go.Lib
set_option linter.unusedVariables false
theorem dig_zero' : dig 4294967296 (1 / 4294967296) = [] := dig_zero 4294967296
def DRPost (k : IntKind) (f l W sign : Nat) (neg : Bool) (N : Nat) (kk : Int) (w : World) (e : Ending) (w' : World) : Prop :=
  ∃ sz : Nat, e = .returned (.tuple #[.int k (sgnN neg sz sign : Nat), .bool true]) ∧ RdSpec f l W N kk sz ∧ Below w.heap.size w w'
structure DgC (w : World) (b : Nat) (neg : Bool) (s : ByteArray) (p : Int) : Prop where
  c0 : w.cell? ⟨b, 0, none⟩ = some (.bool neg)
  c1 : w.cell? ⟨b, 1, none⟩ = some (.string s)
  c2 : w.cell? ⟨b, 2, none⟩ = some (.int .i64 p)
  lt : b < w.heap.size
theorem DgC.below {w w' : World} {b : Nat} {neg : Bool} {s : ByteArray} {p : Int} (h : DgC w b neg s p) (hb : Below w.heap.size w w') : DgC w' b neg s p :=
  ⟨(hb.cell (p := ⟨b, 0, none⟩) h.lt).trans h.c0, (hb.cell (p := ⟨b, 1, none⟩) h.lt).trans h.c1, (hb.cell (p := ⟨b, 2, none⟩) h.lt).trans h.c2, Nat.lt_of_lt_of_le h.lt hb.size⟩
theorem dgC_new (w : World) (neg : Bool) (s : ByteArray) (p : Int) (t : TypeId) : DgC (w.alloc (.cells #[.bool neg, .string s, .int .i64 p] t)) w.heap.size neg s p := by
  have hbk := Blk.new w t #[.bool neg, .string s, .int .i64 p]
  exact ⟨by rw [hbk.cell 0] <;> rfl, by rw [hbk.cell 1] <;> rfl, by rw [hbk.cell 2] <;> rfl, by simp⟩
theorem plain_fine (l : List UInt8) (h : fineL l = true) : fineL (plainL l) = true := by
  obtain ⟨k, e, -, -⟩ := plain_parts l
  unfold fineL at *
  rw [e, List.all_append, List.all_append] at h
  simp only [Bool.and_eq_true] at h
  exact h.1.2
theorem take_fine (l : List UInt8) (n : Nat) (h : fineL l = true) : fineL (l.take n) = true := by
  unfold fineL at *
  rw [List.all_eq_true] at h ⊢
  exact fun x hx => h x (List.mem_of_mem_take hx)
theorem ten_ll (X n : Nat) (h : X ≤ 10 ^ n) : ll X ≤ n + 1 ∧ blen X ≤ 4 * n + 1 := by
  have h1 : (10 : Nat) ^ n ≤ 16 ^ n := Nat.pow_le_pow_left (by decide) n
  have h2 : (16 : Nat) ^ n = 2 ^ (4 * n) := by rw [Nat.pow_mul]
  have h3 : X < 2 ^ (4 * n + 1) := by rw [Nat.pow_succ]; have := Nat.two_pow_pos (4 * n); omega
  exact ⟨ll_two X (n + 1) (Nat.lt_of_lt_of_le h3 (Nat.pow_le_pow_right (by decide) (by omega))), (blen_iff _ _).2 h3⟩
theorem ba_empty (t : ByteArray) (h : t.size = 0) : t = ⟨#[]⟩ := by
  cases t with
  | mk d =>
    have : d = #[] := Array.eq_empty_of_size_eq_zero h
    rw [this]
theorem data_cons (t : ByteArray) (h : 0 < t.size) : ∃ r, t.data.toList = t[0] :: r := by
  have hl : t.data.toList.length = t.size := bytes_len t
  cases hd : t.data.toList with
  | nil => rw [hd] at hl; simp at hl; omega
  | cons a r =>
    refine ⟨r, ?_⟩
    have h0 : t.data.toList[0]'(by rw [hl]; exact h) = t[0] := bytes_at t 0 h
    have h1 : t.data.toList[0]'(by rw [hl]; exact h) = a := by simp [hd]
    rw [← h0, h1]
theorem plain_first (s : ByteArray) (h : 0 < (plainS s).size) : (plainS s)[0] ≠ 48 := by
  obtain ⟨r, hr⟩ := data_cons (plainS s) h
  obtain ⟨k, -, h2, -⟩ := plain_parts s.data.toList
  exact h2 _ r hr
theorem nval_first (t : ByteArray) (h : 0 < t.size) (h1 : t[0] ≠ 48) (hf : fineB t = true) : 10 ^ (t.size - 1) ≤ nval t.data.toList := by
  obtain ⟨r, hr⟩ := data_cons t h
  have hl : t.data.toList.length = t.size := bytes_len t
  have hd := digits_of_fine _ hf (t[0]) (by rw [hr]; simp)
  rw [hr] at hl ⊢
  rw [List.length_cons] at hl
  rw [show t.size - 1 = r.length by omega]
  refine nval_ge _ _ ?_
  have h2 : (t[0]).toNat ≠ 48 := fun e => h1 (UInt8.toNat_inj.1 e)
  omega
theorem ll_1 : ll 1 = 1 := by
  unfold ll
  rw [dig_pos (by decide) (by decide), dig_zero']
  rfl
theorem one_can (w : World) : CanC (w.alloc (.cells #[.int .u32 1] 49)) (some ⟨w.heap.size, 0, none⟩) 1 1 := by
  have h := (limbs_new w [1] 49 (by intro y hy; rw [List.mem_singleton.1 hy]; decide)).rd
  have e : dig 4294967296 1 = [1] := by rw [dig_pos (by decide) (by decide), dig_zero']
  exact ⟨by unfold CanAt; rw [e]; exact h, by rw [ll_1]; exact Nat.le_refl _, by decide⟩
theorem mul_ten (m n k : Nat) (h : m ≤ 10 ^ k) : m * 10 ^ n ≤ 10 ^ (k + n + 1) := by
  have h1 := Nat.mul_le_mul_right (10 ^ n) h
  rw [← Nat.pow_add] at h1
  exact Nat.le_trans h1 (Nat.pow_le_pow_right (by decide) (by omega))
theorem ll_shl (m up k : Nat) (h : blen m + up ≤ 32 * k) : ll (m * 2 ^ up) ≤ k := by
  refine ll_two _ k ?_
  have h1 := Nat.mul_lt_mul_of_pos_right (lt_blen m) (Nat.two_pow_pos up)
  rw [← Nat.pow_add] at h1
  exact Nat.lt_of_lt_of_le h1 (Nat.pow_le_pow_right (by decide) h)
theorem ext_list (t : ByteArray) (n : Nat) : (t.extract 0 n).data.toList = t.data.toList.take n := by
  rw [ByteArray.data_extract]
  simp
theorem nval_pos (l : List UInt8) (h : digitsL l) (hl : l ≠ []) (hlast : ∀ x c, l = x ++ [c] → c ≠ 48) : 0 < nval l := by
  obtain ⟨x, c, rfl⟩ : ∃ x c, l = x ++ [c] := ⟨l.dropLast, l.getLast hl, (List.dropLast_concat_getLast hl).symm⟩
  have hc := hlast x c rfl
  have hd := h c (by simp)
  rw [nval_snoc]
  have h2 : c.toNat ≠ 48 := fun e => hc (UInt8.toNat_inj.1 e)
  omega
/-- the first n digits of more, and the rest -/
theorem cut_facts (t : ByteArray) (n : Nat) (hn : 0 < n) (h : n < t.size) (hf : fineB t = true) (h0 : t[0]'(by omega) ≠ 48) (hlast : ∀ x c, t.data.toList = x ++ [c] → c ≠ 48) :
    (t.extract 0 n).size = n ∧ (t.extract 0 n).data.toList.length = n ∧ fineB (t.extract 0 n) = true ∧ (∀ h : 0 < (t.extract 0 n).size, (t.extract 0 n)[0] ≠ 48) ∧
    nval t.data.toList = nval (t.extract 0 n).data.toList * 10 ^ (t.size - n) + nval (t.data.toList.drop n) ∧ 0 < nval (t.data.toList.drop n) ∧ nval (t.data.toList.drop n) < 10 ^ (t.size - n) := by
  have hl : t.data.toList.length = t.size := bytes_len t
  have hlen : (t.extract 0 n).data.toList.length = n := by rw [ext_list, List.length_take]; omega
  have hsz : (t.extract 0 n).size = n := by rw [← bytes_len]; exact hlen
  have hdg := digits_of_fine _ hf
  have hdd : digitsL (t.data.toList.drop n) := fun x hx => hdg x (List.mem_of_mem_drop hx)
  refine ⟨hsz, hlen, ?_, fun hp => ?_, ?_, ?_, ?_⟩
  · unfold fineB; rw [ext_list]; exact take_fine _ _ hf
  · obtain ⟨r, hr⟩ := data_cons _ hp
    obtain ⟨r2, hr2⟩ := data_cons t (by omega)
    rw [ext_list, hr2] at hr
    obtain ⟨k, rfl⟩ : ∃ k, n = k + 1 := ⟨n - 1, by omega⟩
    rw [List.take_succ_cons] at hr
    injection hr with h1 h2
    rw [← h1]; exact h0
  · rw [ext_list]
    conv => lhs; rw [← List.take_append_drop n t.data.toList]
    rw [nval_append, List.length_drop, hl]
  · refine nval_pos _ hdd ?_ ?_
    · intro e
      have := congrArg List.length e
      rw [List.length_drop, hl] at this
      simp at this; omega
    · intro x c e
      exact hlast (t.data.toList.take n ++ x) c (by rw [List.append_assoc, ← e, List.take_append_drop])
  · have := nval_lt _ hdd
    rw [List.length_drop, hl] at this
    exact this
/-- from the stripped digits to all of them -/
theorem rd_of_plain {f l W sz : Nat} (t : List UInt8) (p : Int) (h : RdSpec f l W (nval (plainL t)) (p - leadL t - (plainL t).length) sz) : RdSpec f l W (nval t) (p - t.length) sz := by
  obtain ⟨k, h1, h2⟩ := nval_plain t
  rw [h2]
  refine rd_pad ?_
  rw [show p - (t.length : Int) + (k : Int) = p - leadL t - (plainL t).length by omega]
  exact h
end Go.Proofs.YtgckfilmhnapeaaDoor

namespace Go.Proofs.YtgckfilmhnapeaaDoor
open Go.RowKit Go.Lib
set_option linter.unusedVariables false

/-- what Exact tells of a size -/
def ExPost (f l inf : Nat) (neg : Bool) (sz : Nat) (w : World) (e : Ending) (w' : World) : Prop :=
  Below w.heap.size w w' ∧ ((inf ≤ sz ∧ e = .returned (.tuple #[.agg #[.bool false, .string ⟨#[]⟩, .int .i64 0], .bool false])) ∨
    (sz = 0 ∧ e = .returned (.tuple #[.agg #[.bool neg, .string ⟨#[]⟩, .int .i64 0], .bool true])) ∨
    (sz < inf ∧ sz ≠ 0 ∧ ∃ N k : Nat, e = .returned (.tuple #[.agg #[.bool neg, .string (plainS (digitsS N)), .int .i64 (((digitsS N).size : Int) - (k : Int))], .bool true]) ∧ N ≠ 0 ∧ N * 2 ^ l = pv f sz * 10 ^ k))
theorem ex_up (u z l j P : Nat) (h : (2 * u + 1) * 2 ^ z = P) (hz : z = l + j) : (2 * u + 1) * 2 ^ j * 2 ^ l = P * 10 ^ 0 := by
  rw [← h, hz, Nat.pow_zero, Nat.mul_one, Nat.mul_assoc, ← Nat.pow_add, Nat.add_comm j l]
theorem ex_down (u z l k P : Nat) (h : (2 * u + 1) * 2 ^ z = P) (hz : l = z + k) : (2 * u + 1) * 5 ^ k * 2 ^ l = P * 10 ^ k := by
  rw [← h, hz, show (10 : Nat) = 5 * 2 from rfl, Nat.mul_pow, Nat.pow_add, Nat.mul_assoc, Nat.mul_assoc]
  congr 1
  rw [Nat.mul_left_comm, Nat.mul_left_comm (2 ^ z)]
theorem z_bound (u z f W sz : Nat) (h : (2 * u + 1) * 2 ^ z = pv f sz) (hs : sz < (W + 1) * 2 ^ f) : z < f + W ∧ 2 * u + 1 < 2 ^ (f + W) := by
  have h1 := pv_lt f hs
  rw [pv_inf, ← Nat.pow_add, ← h] at h1
  have hp := Nat.two_pow_pos z
  constructor
  · rcases Nat.lt_or_ge z (f + W) with g | g
    · exact g
    · have h2 : 2 ^ (f + W) ≤ 2 ^ z := Nat.pow_le_pow_right (by decide) g
      have h3 : 1 * 2 ^ z ≤ (2 * u + 1) * 2 ^ z := Nat.mul_le_mul_right _ (by omega)
      omega
  · exact Nat.lt_of_le_of_lt (Nat.le_mul_of_pos_right _ hp) h1
theorem enough_of (N n : Nat) (h : blen N ≤ n) : Enough N n := by
  unfold Enough
  apply Nat.div_eq_of_lt
  have h1 : N < 2 ^ n := (blen_iff N n).1 h
  exact Nat.lt_of_lt_of_le h1 (Nat.pow_le_pow_left (by decide) n)
/-- all digits of a number: their bytes, their number -/
theorem dtext_mem (N : Nat) : ∀ x ∈ dtext N, 48 ≤ x ∧ x ≤ 57 := by
  intro x hx
  unfold dtext at hx
  rw [List.mem_reverse] at hx
  obtain ⟨y, hy, rfl⟩ := List.mem_map.1 hx
  have := dig_lt (b := 10) (by decide) N y hy
  omega
theorem digitsS_list (N : Nat) (h : N ≠ 0) : (digitsS N).data.toList = (dtext N).map UInt8.ofNat := by
  unfold digitsS
  rw [if_neg h]
  simp [strOf]
theorem ofNat_small (x : Nat) (h : x < 256) : (UInt8.ofNat x).toNat = x := by
  rw [UInt8.toNat_ofNat']
  exact Nat.mod_eq_of_lt h
theorem digitsS_fine (N : Nat) (h : N ≠ 0) : fineL (digitsS N).data.toList = true := by
  rw [digitsS_list N h]
  unfold fineL
  rw [List.all_eq_true]
  intro c hc
  obtain ⟨x, hx, rfl⟩ := List.mem_map.1 hc
  have := dtext_mem N x hx
  unfold dgB
  rw [ofNat_small x (by omega)]
  simp; omega
theorem nval_dtext (N : Nat) : nval ((dtext N).map UInt8.ofNat) = N := by
  have key : ∀ l : List Nat, (∀ x ∈ l, x < 10) → nval (((l.map (48 + ·)).reverse).map UInt8.ofNat) = bval 10 l := by
    intro l
    induction l with
    | nil => intro _; rfl
    | cons a l ih =>
      intro h
      rw [List.map_cons, List.reverse_cons, List.map_append, List.map_cons, List.map_nil, nval_snoc, ih (fun x hx => h x (by simp [hx]))]
      have := h a (by simp)
      rw [ofNat_small _ (by omega)]
      show bval 10 l * 10 + (48 + a - 48) = a + 10 * bval 10 l
      omega
  have := key (dig 10 N) (dig_lt (by decide) N)
  rw [bval_dig (by decide)] at this
  exact this
theorem nval_digitsS (N : Nat) (h : N ≠ 0) : nval (digitsS N).data.toList = N := by rw [digitsS_list N h, nval_dtext]
theorem digitsS_first (N : Nat) (h : N ≠ 0) : ∃ c r, (digitsS N).data.toList = c :: r ∧ c ≠ 48 := by
  have hl := dig_last (b := 10) (by decide) N h
  have hne : dig 10 N ≠ [] := by intro e; rw [e] at hl; exact hl.1 rfl
  obtain ⟨x, c, hxc⟩ : ∃ x c, dig 10 N = x ++ [c] := ⟨_, _, (List.dropLast_concat_getLast hne).symm⟩
  have hc : c ≠ 0 := by
    have := hl.2
    rw [hxc] at this
    simpa using this
  have hc10 : c < 10 := dig_lt (by decide) N c (by rw [hxc]; simp)
  refine ⟨UInt8.ofNat (48 + c), ((x.map (48 + ·)).reverse).map UInt8.ofNat, ?_, ?_⟩
  · rw [digitsS_list N h]
    unfold dtext
    rw [hxc, List.map_append, List.reverse_append, List.map_append]
    rfl
  · intro e
    have := congrArg UInt8.toNat e
    rw [ofNat_small _ (by omega)] at this
    have h48 : UInt8.toNat 48 = 48 := rfl
    omega
theorem digitsS_lead (N : Nat) (h : N ≠ 0) : trimLeftB (digitsS N).data.toList 48 = (digitsS N).data.toList ∧ leadL (digitsS N).data.toList = 0 := by
  obtain ⟨c, r, e, hc⟩ := digitsS_first N h
  have h1 : trimLeftB (digitsS N).data.toList 48 = (digitsS N).data.toList := by
    unfold trimLeftB
    rw [e]; simp [hc]
  exact ⟨h1, by unfold leadL; rw [h1]; omega⟩
theorem ll_of_blen (m k : Nat) (h : blen m ≤ 32 * k) : ll m ≤ k := ll_two m k (Nat.lt_of_lt_of_le (lt_blen m) (Nat.pow_le_pow_right (by decide) h))
theorem u_small (f u z sz : Nat) (h : (2 * u + 1) * 2 ^ z = pv f sz) : 2 * u + 1 < 2 ^ (f + 1) := by
  obtain ⟨k, c, h1, h2, h3, -⟩ := size_parts f sz
  rw [h1, pv_of f k c (Nat.le_of_lt h2) h3] at h
  rcases Nat.lt_or_ge z k with g | g
  · exfalso
    obtain ⟨d, rfl⟩ : ∃ d, k = z + (d + 1) := ⟨k - z - 1, by omega⟩
    rw [Nat.pow_add, Nat.mul_left_comm, Nat.mul_comm] at h
    have h4 := Nat.eq_of_mul_eq_mul_left (Nat.two_pow_pos z) h
    rw [Nat.pow_succ, ← Nat.mul_assoc] at h4
    omega
  · obtain ⟨d, rfl⟩ : ∃ d, z = k + d := ⟨z - k, by omega⟩
    rw [Nat.pow_add, Nat.mul_left_comm, Nat.mul_comm c] at h
    have h4 := Nat.eq_of_mul_eq_mul_left (Nat.two_pow_pos k) h
    have := Nat.le_mul_of_pos_right (2 * u + 1) (Nat.two_pow_pos d)
    omega
theorem ll_five (m k n : Nat) (h : blen m + 3 * k ≤ 32 * n) : ll (m * 5 ^ k) ≤ n := by
  refine ll_two _ n ?_
  have h1 : (5 : Nat) ^ k ≤ 8 ^ k := Nat.pow_le_pow_left (by decide) k
  have h2 : (8 : Nat) ^ k = 2 ^ (3 * k) := by rw [Nat.pow_mul]
  rw [h2] at h1
  have h3 := Nat.mul_lt_mul_of_pos_right (lt_blen m) (Nat.two_pow_pos (3 * k))
  rw [← Nat.pow_add] at h3
  exact Nat.lt_of_le_of_lt (Nat.mul_le_mul_left _ h1) (Nat.lt_of_lt_of_le h3 (Nat.pow_le_pow_right (by decide) h))
theorem digitsS_size (N : Nat) (h : N ≠ 0) : (digitsS N).size = (dig 10 N).length := by
  rw [← bytes_len, digitsS_list N h]
  unfold dtext
  rw [List.length_map, List.length_reverse, List.length_map]
theorem lt_of_enough (N n : Nat) (h : Enough N n) : N < 10 ^ n := by
  unfold Enough at h
  rcases Nat.lt_or_ge N (10 ^ n) with g | g
  · exact g
  · have := Nat.div_pos g (ten_pos n); omega
theorem trim_digits (N : Nat) (h : N ≠ 0) (hs : (digitsS N).size ≤ 9223372036854775807) (w : World) :
    Calls Tryd.prog 62 #[.string (digitsS N), .string ⟨#[48]⟩] w fun e w' => e = .returned (.string (plainS (digitsS N))) ∧ w' = w := by
  refine (Tryd.strings_TrimRight_one (digitsS N) 48 (by decide) w hs).mono ?_
  rintro e w' ⟨rfl, rfl⟩
  refine ⟨?_, rfl⟩
  unfold plainS plainL
  rw [(digitsS_lead N h).1]
theorem retx {neg : Bool} {s : ByteArray} {a b : Int} {ok : Bool} (h : a = b) : Ending.returned (.tuple #[.agg #[.bool neg, .string s, .int .i64 a], .bool ok]) = .returned (.tuple #[.agg #[.bool neg, .string s, .int .i64 b], .bool ok]) := by rw [h]
end Go.Proofs.YtgckfilmhnapeaaDoor
