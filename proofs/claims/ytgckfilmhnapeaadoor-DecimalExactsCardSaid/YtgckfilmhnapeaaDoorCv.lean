/- decimal.Cmp's answer is that of the numbers' values: plain Lean. -/
import Derived.Test.YtgckfilmhnapeaaDoorDec3
import Derived.Test.YtgckfilmhnapeaaDoorFp6
import Derived.Test.YtgckfilmhnapeaaDoorDr0
namespace Go.Proofs.YtgckfilmhnapeaaDoor
open Go.RowKit Go.Lib
set_option linter.unusedVariables false

theorem digL_of_fine (l : List UInt8) (h : fineL l = true) : digL l := by
  intro c hc
  have := List.all_eq_true.1 h c hc
  simpa [dgB] using this
def cmpN (x y : Nat) : Int := if x < y then -1 else if y < x then 1 else 0
theorem size_lex (p : Int) (n : Nat) (q : Int) (m : Nat) (c : Int) (hn : n ≤ 1099511627776) (hm : m ≤ 1099511627776) :
    sizeP p n q m c = if p - n < q - m then -1 else if q - m < p - n then 1 else c := by
  unfold sizeP sizeUp sgn
  repeat' split
  all_goals first | omega | simp_all
  all_goals omega
theorem bare_tail {c : UInt8} {r : List UInt8} (h : digL (c :: r)) (hl : ∀ x d, c :: r = x ++ [d] → d ≠ 48) : digL r ∧ ∀ x d, r = x ++ [d] → d ≠ 48 :=
  ⟨fun d hd => h d (by simp [hd]), fun x d e => hl (c :: x) d (by rw [e]; rfl)⟩
theorem nval_some (l : List UInt8) (h : digL l) (hl : l ≠ []) (hlast : ∀ x d, l = x ++ [d] → d ≠ 48) : 0 < nval l := by
  obtain ⟨x, c, rfl⟩ : ∃ x c, l = x ++ [c] := ⟨_, _, (List.dropLast_concat_getLast hl).symm⟩
  have h1 := u8_ne (hlast x c rfl)
  have h2 := h c (by simp)
  rw [nval_snoc]
  omega
/-- the value, in so many places -/
def pl (l : List UInt8) (X : Nat) : Nat := nval l * 10 ^ (X - l.length)
theorem pl_lt (l : List UInt8) (X : Nat) (h : digL l) (hX : l.length ≤ X) : pl l X < 10 ^ X := by
  have h1 := nval_lt l h
  have h2 := Nat.mul_lt_mul_of_pos_right h1 (ten_pos (X - l.length))
  rw [← Nat.pow_add, show l.length + (X - l.length) = X by omega] at h2
  exact h2
theorem pl_cons (c : UInt8) (r : List UInt8) (X : Nat) (hX : r.length ≤ X) : pl (c :: r) (X + 1) = (c.toNat - 48) * 10 ^ X + pl r X := by
  unfold pl
  rw [nval_cons, List.length_cons, show X + 1 - (r.length + 1) = X - r.length by omega, Nat.add_mul, Nat.mul_assoc, ← Nat.pow_add, show r.length + (X - r.length) = X by omega]
theorem cmp_digits : ∀ (s t : List UInt8) (X : Nat), digL s → digL t → (∀ x d, s = x ++ [d] → d ≠ 48) → (∀ x d, t = x ++ [d] → d ≠ 48) → s.length ≤ X → t.length ≤ X →
    compareBytes s t = cmpN (pl s X) (pl t X) := by
  intro s
  induction s with
  | nil =>
    intro t X _ ht _ hlt _ hX
    cases t with
    | nil => simp [compareBytes, cmpN]
    | cons d r =>
      have h1 : 0 < pl (d :: r) X := Nat.mul_pos (nval_some _ ht (by simp) hlt) (ten_pos _)
      have h0 : pl [] X = 0 := by unfold pl; rw [show nval [] = 0 from rfl, Nat.zero_mul]
      rw [compareBytes, cmpN, h0, if_pos h1]
  | cons c s ih =>
    intro t X hs ht hls hlt hXs hX
    cases t with
    | nil =>
      have h1 : 0 < pl (c :: s) X := Nat.mul_pos (nval_some _ hs (by simp) hls) (ten_pos _)
      have h0 : pl [] X = 0 := by unfold pl; rw [show nval [] = 0 from rfl, Nat.zero_mul]
      rw [compareBytes, cmpN, h0, if_neg (by omega), if_pos h1]
    | cons d r =>
      obtain ⟨Y, rfl⟩ : ∃ Y, X = Y + 1 := ⟨X - 1, by simp at hX; omega⟩
      have l1 : s.length ≤ Y := by simpa using hXs
      have l2 : r.length ≤ Y := by simpa using hX
      obtain ⟨ds, es⟩ := bare_tail hs hls
      obtain ⟨dr, er⟩ := bare_tail ht hlt
      have h := ih r Y ds dr es er l1 l2
      have b1 := pl_lt s Y ds l1
      have b2 := pl_lt r Y dr l2
      have hc := hs c (by simp)
      have hd := ht d (by simp)
      rw [compareBytes, pl_cons c s Y l1, pl_cons d r Y l2]
      rcases Nat.lt_trichotomy c.toNat d.toNat with g | g | g
      · rw [if_pos (UInt8.lt_iff_toNat_lt.2 g)]
        have e : (c.toNat - 48 + 1) * 10 ^ Y ≤ (d.toNat - 48) * 10 ^ Y := Nat.mul_le_mul_right _ (by omega)
        rw [Nat.add_mul, Nat.one_mul] at e
        rw [cmpN, if_pos (by omega)]
      · have e : c = d := UInt8.toNat_inj.1 g
        subst e
        rw [if_neg (by rw [UInt8.lt_iff_toNat_lt]; omega), if_neg (by rw [UInt8.lt_iff_toNat_lt]; omega), h]
        unfold cmpN
        repeat' split
        all_goals omega
      · rw [if_neg (by rw [UInt8.lt_iff_toNat_lt]; omega), if_pos (UInt8.lt_iff_toNat_lt.2 g)]
        have e : (d.toNat - 48 + 1) * 10 ^ Y ≤ (c.toNat - 48) * 10 ^ Y := Nat.mul_le_mul_right _ (by omega)
        rw [Nat.add_mul, Nat.one_mul] at e
        rw [cmpN, if_neg (by omega), if_pos (by omega)]
/-- the size of a decimal number, times 10^E -/
def val (a : ByteArray) (p : Int) (E : Nat) : Nat := nval a.data.toList * 10 ^ (p - a.size + E).toNat
def sval (na : Bool) (a : ByteArray) (p : Int) (E : Nat) : Int := if na = true then -(val a p E : Int) else val a p E
theorem val_pl (a : ByteArray) (p : Int) (E : Nat) (hf : fineB a = true) (hE : 0 ≤ p - a.size + E) :
    (plainL a.data.toList).length ≤ (p - leadL a.data.toList + E).toNat ∧ 0 ≤ p - leadL a.data.toList + E ∧ val a p E = pl (plainL a.data.toList) (p - leadL a.data.toList + E).toNat := by
  obtain ⟨k, hl, hv⟩ := nval_plain a.data.toList
  rw [bytes_len] at hl
  refine ⟨by omega, by omega, ?_⟩
  unfold val pl
  rw [hv, Nat.mul_assoc, ← Nat.pow_add]
  congr 2
  omega
theorem val_zero (a : ByteArray) (p : Int) (E : Nat) (hf : fineB a = true) : smB a = decide (val a p E ≠ 0) := by
  obtain ⟨k, hl, hv⟩ := nval_plain a.data.toList
  obtain ⟨k2, e, h1, h2⟩ := plain_parts a.data.toList
  have hd : digL (plainL a.data.toList) := (bare_plain _ (digL_of_fine _ hf)).dig
  unfold smB val
  by_cases h : plainL a.data.toList = []
  · have h0 : nval a.data.toList = 0 := by rw [hv, h, show nval [] = 0 from rfl, Nat.zero_mul]
    rw [h0, Nat.zero_mul]
    simp [plainS, h]
  · have h0 : 0 < nval a.data.toList := by rw [hv]; exact Nat.mul_pos (nval_some _ hd h h2) (ten_pos _)
    have h3 : 0 < nval a.data.toList * 10 ^ (p - a.size + E).toNat := Nat.mul_pos h0 (ten_pos _)
    have hne : (plainL a.data.toList).isEmpty = false := by simpa using h
    have e1 : (plainS a).data.toList = plainL a.data.toList := by unfold plainS; simp
    rw [e1, hne, decide_eq_true (Nat.pos_iff_ne_zero.1 h3)]
    rfl
theorem szP_val (a b : ByteArray) (p q : Int) (E : Nat) (ha : fineB a = true) (hb : fineB b = true) (sa : a.size ≤ 1099511627776) (sb : b.size ≤ 1099511627776) (ea : 0 ≤ p - a.size + E) (eb : 0 ≤ q - b.size + E)
    (na : val a p E ≠ 0) (nb : val b q E ≠ 0) : szP a b p q = cmpN (val a p E) (val b q E) := by
  obtain ⟨la, ea', va⟩ := val_pl a p E ha ea
  obtain ⟨lb, eb', vb⟩ := val_pl b q E hb eb
  have hla := lead_le a.data.toList
  have hlb := lead_le b.data.toList
  rw [bytes_len] at hla hlb
  have Ba := bare_plain _ (digL_of_fine _ ha)
  have Bb := bare_plain _ (digL_of_fine _ hb)
  unfold szP cmpStr
  rw [size_lex _ _ _ _ _ (by omega) (by omega)]
  have e1 : (plainS a).data.toList = plainL a.data.toList := by unfold plainS; simp
  have e2 : (plainS b).data.toList = plainL b.data.toList := by unfold plainS; simp
  rw [e1, e2]
  have a1 := pl_lt _ _ Ba.dig la
  have b1 := pl_lt _ _ Bb.dig lb
  rw [← va] at a1
  rw [← vb] at b1
  have na' : plainL a.data.toList ≠ [] := fun e => na (by rw [va, e]; unfold pl; rw [show nval [] = 0 from rfl, Nat.zero_mul])
  have nb' : plainL b.data.toList ≠ [] := fun e => nb (by rw [vb, e]; unfold pl; rw [show nval [] = 0 from rfl, Nat.zero_mul])
  have lo : ∀ (l : List UInt8) (X : Nat), Bare l → l ≠ [] → l.length ≤ X → 10 ^ (X - 1) ≤ pl l X := by
    intro l X hB hn hX
    have hp := (bare_pos l hB hn).1
    have hl0 : 0 < l.length := List.length_pos_iff.2 hn
    have h2 := Nat.mul_le_mul_right (10 ^ (X - l.length)) hp
    rw [← Nat.pow_add, show l.length - 1 + (X - l.length) = X - 1 by omega] at h2
    exact h2
  have a2 := lo _ _ Ba na' la
  have b2 := lo _ _ Bb nb' lb
  rw [← va] at a2
  rw [← vb] at b2
  by_cases h1 : p - leadL a.data.toList < q - leadL b.data.toList
  · rw [if_pos h1]
    have : 10 ^ (p - leadL a.data.toList + E).toNat ≤ 10 ^ ((q - leadL b.data.toList + E).toNat - 1) := Nat.pow_le_pow_right (by decide) (by omega)
    rw [cmpN, if_pos (by omega)]
  · rw [if_neg h1]
    by_cases h2 : q - leadL b.data.toList < p - leadL a.data.toList
    · rw [if_pos h2]
      have : 10 ^ (q - leadL b.data.toList + E).toNat ≤ 10 ^ ((p - leadL a.data.toList + E).toNat - 1) := Nat.pow_le_pow_right (by decide) (by omega)
      rw [cmpN, if_neg (by omega), if_pos (by omega)]
    · rw [if_neg h2]
      have e : q - leadL b.data.toList = p - leadL a.data.toList := by omega
      rw [e] at lb vb
      rw [va, vb]
      exact cmp_digits _ _ _ Ba.dig Bb.dig Ba.last Bb.last la lb
theorem cmpV_val (na nb : Bool) (a b : ByteArray) (p q : Int) (E : Nat) (hf : bothB a b = true) (sa : a.size ≤ 1099511627776) (sb : b.size ≤ 1099511627776) (ea : 0 ≤ p - a.size + E) (eb : 0 ≤ q - b.size + E) :
    cmpV na a p nb b q = sgn (sval na a p E - sval nb b q E) := by
  have hf' := hf
  unfold bothB at hf'
  rw [Bool.and_eq_true] at hf'
  unfold cmpV
  rw [if_pos hf]
  have za := val_zero a p E hf'.1
  have zb := val_zero b q E hf'.2
  have hz := szP_val a b p q E hf'.1 hf'.2 sa sb ea eb
  generalize szP a b p q = z at *
  unfold sval
  generalize val a p E = x at *
  generalize val b q E = y at *
  rw [za, zb]
  by_cases hx : x = 0
  · subst hx
    by_cases hy : y = 0
    · subst hy
      cases na <;> cases nb <;> simp [cmpP, signN, sgn]
    · have : (0 : Int) < y := by omega
      cases na <;> cases nb <;> simp [cmpP, signN, sgn, hy] <;> omega
  · by_cases hy : y = 0
    · subst hy
      have : (0 : Int) < x := by omega
      cases na <;> cases nb <;> simp [cmpP, signN, sgn, hx] <;> omega
    · rw [hz hx hy]
      have h1 : (0 : Int) < x := by omega
      have h2 : (0 : Int) < y := by omega
      unfold cmpN
      cases na <;> cases nb <;> simp [cmpP, signN, sgn, hx, hy] <;> repeat' split
      all_goals omega
/-- places enough for a number -/
theorem places (s : ByteArray) (p : Int) : ∃ E : Nat, ∀ F : Nat, E ≤ F → 0 ≤ p - s.size + F := ⟨(s.size - p).toNat, fun F h => by omega⟩
theorem sgn_cases (x : Int) : sgn x = -1 ∨ sgn x = 0 ∨ sgn x = 1 := by unfold sgn; repeat' split
                                                                       all_goals simp
theorem cmpV_no (na nb : Bool) (a b : ByteArray) (p q : Int) (h : bothB a b = false) : cmpV na a p nb b q = 0 := by unfold cmpV; rw [h]; rfl
theorem bothB_comm (a b : ByteArray) : bothB b a = bothB a b := Bool.and_comm _ _
end Go.Proofs.YtgckfilmhnapeaaDoor
