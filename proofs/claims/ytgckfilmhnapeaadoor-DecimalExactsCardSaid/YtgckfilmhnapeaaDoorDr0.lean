/- The program's decimal: what reading needs at all widths. -/
import Derived.Test.YtgckfilmhnapeaaDoorFp6
import Derived.Test.YtgckfilmhnapeaaDoorIr0
import Derived.Test.YtgckfilmhnapeaaDoorDec3
namespace Go.Proofs.YtgckfilmhnapeaaDoor
open Go.RowKit Go.Lib
set_option linter.unusedVariables false
theorem dig_zero' : dig 4294967296 (1 / 4294967296) = [] := dig_zero 4294967296
def DRPost (k : IntKind) (f l W sign : Nat) (neg : Bool) (N : Nat) (kk : Int) (w : World) (e : Ending) (w' : World) : Prop :=
  ∃ sz : Nat, e = .returned (.tuple #[.int k (sgnN neg sz sign : Nat), .bool true]) ∧ RdSpec f l W N kk sz ∧ Below w.heap.size w w'
structure DgC (w : World) (b : Nat) (neg : Bool) (s : ByteArray) (p : Int) : Prop where
  c0 : w.cell? ⟨b, 0, none⟩ = some (.bool neg)
  c1 : w.cell? ⟨b, 1, none⟩ = some (.string s)
  c2 : w.cell? ⟨b, 2, none⟩ = some (.int .i64 p)
  lt : b < w.heap.size
theorem DgC.below {w w' : World} {b : Nat} {neg : Bool} {s : ByteArray} {p : Int} (h : DgC w b neg s p) (hb : Below w.heap.size w w') : DgC w' b neg s p :=
  ⟨(hb.cell (p := ⟨b, 0, none⟩) h.lt).trans h.c0, (hb.cell (p := ⟨b, 1, none⟩) h.lt).trans h.c1, (hb.cell (p := ⟨b, 2, none⟩) h.lt).trans h.c2, Nat.lt_of_lt_of_le h.lt hb.size⟩
theorem dgC_new (w : World) (neg : Bool) (s : ByteArray) (p : Int) (t : TypeId) : DgC (w.alloc (.cells #[.bool neg, .string s, .int .i64 p] t)) w.heap.size neg s p := by
  have hbk := Blk.new w t #[.bool neg, .string s, .int .i64 p]
  exact ⟨by rw [hbk.cell 0] <;> rfl, by rw [hbk.cell 1] <;> rfl, by rw [hbk.cell 2] <;> rfl, by simp⟩
theorem plain_fine (l : List UInt8) (h : fineL l = true) : fineL (plainL l) = true := by
  obtain ⟨k, e, -, -⟩ := plain_parts l
  unfold fineL at *
  rw [e, List.all_append, List.all_append] at h
  simp only [Bool.and_eq_true] at h
  exact h.1.2
theorem take_fine (l : List UInt8) (n : Nat) (h : fineL l = true) : fineL (l.take n) = true := by
  unfold fineL at *
  rw [List.all_eq_true] at h ⊢
  exact fun x hx => h x (List.mem_of_mem_take hx)
theorem ten_ll (X n : Nat) (h : X ≤ 10 ^ n) : ll X ≤ n + 1 ∧ blen X ≤ 4 * n + 1 := by
  have h1 : (10 : Nat) ^ n ≤ 16 ^ n := Nat.pow_le_pow_left (by decide) n
  have h2 : (16 : Nat) ^ n = 2 ^ (4 * n) := by rw [Nat.pow_mul]
  have h3 : X < 2 ^ (4 * n + 1) := by rw [Nat.pow_succ]; have := Nat.two_pow_pos (4 * n); omega
  exact ⟨ll_two X (n + 1) (Nat.lt_of_lt_of_le h3 (Nat.pow_le_pow_right (by decide) (by omega))), (blen_iff _ _).2 h3⟩
theorem ba_empty (t : ByteArray) (h : t.size = 0) : t = ⟨#[]⟩ := by
  cases t with
  | mk d =>
    have : d = #[] := Array.eq_empty_of_size_eq_zero h
    rw [this]
theorem data_cons (t : ByteArray) (h : 0 < t.size) : ∃ r, t.data.toList = t[0] :: r := by
  have hl : t.data.toList.length = t.size := bytes_len t
  cases hd : t.data.toList with
  | nil => rw [hd] at hl; simp at hl; omega
  | cons a r =>
    refine ⟨r, ?_⟩
    have h0 : t.data.toList[0]'(by rw [hl]; exact h) = t[0] := bytes_at t 0 h
    have h1 : t.data.toList[0]'(by rw [hl]; exact h) = a := by simp [hd]
    rw [← h0, h1]
theorem plain_first (s : ByteArray) (h : 0 < (plainS s).size) : (plainS s)[0] ≠ 48 := by
  obtain ⟨r, hr⟩ := data_cons (plainS s) h
  obtain ⟨k, -, h2, -⟩ := plain_parts s.data.toList
  exact h2 _ r hr
theorem nval_first (t : ByteArray) (h : 0 < t.size) (h1 : t[0] ≠ 48) (hf : fineB t = true) : 10 ^ (t.size - 1) ≤ nval t.data.toList := by
  obtain ⟨r, hr⟩ := data_cons t h
  have hl : t.data.toList.length = t.size := bytes_len t
  have hd := digits_of_fine _ hf (t[0]) (by rw [hr]; simp)
  rw [hr] at hl ⊢
  rw [List.length_cons] at hl
  rw [show t.size - 1 = r.length by omega]
  refine nval_ge _ _ ?_
  have h2 : (t[0]).toNat ≠ 48 := fun e => h1 (UInt8.toNat_inj.1 e)
  omega
theorem ll_1 : ll 1 = 1 := by
  unfold ll
  rw [dig_pos (by decide) (by decide), dig_zero']
  rfl
theorem one_can (w : World) : CanC (w.alloc (.cells #[.int .u32 1] 49)) (some ⟨w.heap.size, 0, none⟩) 1 1 := by
  have h := (limbs_new w [1] 49 (by intro y hy; rw [List.mem_singleton.1 hy]; decide)).rd
  have e : dig 4294967296 1 = [1] := by rw [dig_pos (by decide) (by decide), dig_zero']
  exact ⟨by unfold CanAt; rw [e]; exact h, by rw [ll_1]; exact Nat.le_refl _, by decide⟩
theorem mul_ten (m n k : Nat) (h : m ≤ 10 ^ k) : m * 10 ^ n ≤ 10 ^ (k + n + 1) := by
  have h1 := Nat.mul_le_mul_right (10 ^ n) h
  rw [← Nat.pow_add] at h1
  exact Nat.le_trans h1 (Nat.pow_le_pow_right (by decide) (by omega))
theorem ll_shl (m up k : Nat) (h : blen m + up ≤ 32 * k) : ll (m * 2 ^ up) ≤ k := by
  refine ll_two _ k ?_
  have h1 := Nat.mul_lt_mul_of_pos_right (lt_blen m) (Nat.two_pow_pos up)
  rw [← Nat.pow_add] at h1
  exact Nat.lt_of_lt_of_le h1 (Nat.pow_le_pow_right (by decide) h)
theorem ext_list (t : ByteArray) (n : Nat) : (t.extract 0 n).data.toList = t.data.toList.take n := by
  rw [ByteArray.data_extract]
  simp
theorem nval_pos (l : List UInt8) (h : digitsL l) (hl : l ≠ []) (hlast : ∀ x c, l = x ++ [c] → c ≠ 48) : 0 < nval l := by
  obtain ⟨x, c, rfl⟩ : ∃ x c, l = x ++ [c] := ⟨l.dropLast, l.getLast hl, (List.dropLast_concat_getLast hl).symm⟩
  have hc := hlast x c rfl
  have hd := h c (by simp)
  rw [nval_snoc]
  have h2 : c.toNat ≠ 48 := fun e => hc (UInt8.toNat_inj.1 e)
  omega
/-- the first n digits of more, and the rest -/
theorem cut_facts (t : ByteArray) (n : Nat) (hn : 0 < n) (h : n < t.size) (hf : fineB t = true) (h0 : t[0]'(by omega) ≠ 48) (hlast : ∀ x c, t.data.toList = x ++ [c] → c ≠ 48) :
    (t.extract 0 n).size = n ∧ (t.extract 0 n).data.toList.length = n ∧ fineB (t.extract 0 n) = true ∧ (∀ h : 0 < (t.extract 0 n).size, (t.extract 0 n)[0] ≠ 48) ∧
    nval t.data.toList = nval (t.extract 0 n).data.toList * 10 ^ (t.size - n) + nval (t.data.toList.drop n) ∧ 0 < nval (t.data.toList.drop n) ∧ nval (t.data.toList.drop n) < 10 ^ (t.size - n) := by
  have hl : t.data.toList.length = t.size := bytes_len t
  have hlen : (t.extract 0 n).data.toList.length = n := by rw [ext_list, List.length_take]; omega
  have hsz : (t.extract 0 n).size = n := by rw [← bytes_len]; exact hlen
  have hdg := digits_of_fine _ hf
  have hdd : digitsL (t.data.toList.drop n) := fun x hx => hdg x (List.mem_of_mem_drop hx)
  refine ⟨hsz, hlen, ?_, fun hp => ?_, ?_, ?_, ?_⟩
  · unfold fineB; rw [ext_list]; exact take_fine _ _ hf
  · obtain ⟨r, hr⟩ := data_cons _ hp
    obtain ⟨r2, hr2⟩ := data_cons t (by omega)
    rw [ext_list, hr2] at hr
    obtain ⟨k, rfl⟩ : ∃ k, n = k + 1 := ⟨n - 1, by omega⟩
    rw [List.take_succ_cons] at hr
    injection hr with h1 h2
    rw [← h1]; exact h0
  · rw [ext_list]
    conv => lhs; rw [← List.take_append_drop n t.data.toList]
    rw [nval_append, List.length_drop, hl]
  · refine nval_pos _ hdd ?_ ?_
    · intro e
      have := congrArg List.length e
      rw [List.length_drop, hl] at this
      simp at this; omega
    · intro x c e
      exact hlast (t.data.toList.take n ++ x) c (by rw [List.append_assoc, ← e, List.take_append_drop])
  · have := nval_lt _ hdd
    rw [List.length_drop, hl] at this
    exact this
/-- from the stripped digits to all of them -/
theorem rd_of_plain {f l W sz : Nat} (t : List UInt8) (p : Int) (h : RdSpec f l W (nval (plainL t)) (p - leadL t - (plainL t).length) sz) : RdSpec f l W (nval t) (p - t.length) sz := by
  obtain ⟨k, h1, h2⟩ := nval_plain t
  rw [h2]
  refine rd_pad ?_
  rw [show p - (t.length : Int) + (k : Int) = p - leadL t - (plainL t).length by omega]
  exact h
end Go.Proofs.YtgckfilmhnapeaaDoor
