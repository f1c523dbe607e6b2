/- decimal.Cmp's answer is that of the numbers' values: plain Lean. -/
import Derived.Test.YtgckfilmhnapeaaDoorDec3
import Derived.Test.YtgckfilmhnapeaaDoorFp6
import Derived.Test.YtgckfilmhnapeaaDoorEx0
import Derived.Test.YtgckfilmhnapeaaDoorExC
import Derived.Test.YtgckfilmhnapeaaDoorDrC
namespace Go.Proofs.YtgckfilmhnapeaaDoor
open Go.RowKit Go.Lib
set_option linter.unusedVariables false

theorem digL_of_fine (l : List UInt8) (h : fineL l = true) : digL l := by
  intro c hc
  have := List.all_eq_true.1 h c hc
  simpa [dgB] using this
def cmpN (x y : Nat) : Int := if x < y then -1 else if y < x then 1 else 0
theorem size_lex (p : Int) (n : Nat) (q : Int) (m : Nat) (c : Int) (hn : n ≤ 1099511627776) (hm : m ≤ 1099511627776) :
    sizeP p n q m c = if p - n < q - m then -1 else if q - m < p - n then 1 else c := by
  unfold sizeP sizeUp sgn
  repeat' split
  all_goals first | omega | simp_all
  all_goals omega
theorem bare_tail {c : UInt8} {r : List UInt8} (h : digL (c :: r)) (hl : ∀ x d, c :: r = x ++ [d] → d ≠ 48) : digL r ∧ ∀ x d, r = x ++ [d] → d ≠ 48 :=
  ⟨fun d hd => h d (by simp [hd]), fun x d e => hl (c :: x) d (by rw [e]; rfl)⟩
theorem nval_some (l : List UInt8) (h : digL l) (hl : l ≠ []) (hlast : ∀ x d, l = x ++ [d] → d ≠ 48) : 0 < nval l := by
  obtain ⟨x, c, rfl⟩ : ∃ x c, l = x ++ [c] := ⟨_, _, (List.dropLast_concat_getLast hl).symm⟩
  have h1 := u8_ne (hlast x c rfl)
  have h2 := h c (by simp)
  rw [nval_snoc]
  omega
/-- the value, in so many places -/
def pl (l : List UInt8) (X : Nat) : Nat := nval l * 10 ^ (X - l.length)
theorem pl_lt (l : List UInt8) (X : Nat) (h : digL l) (hX : l.length ≤ X) : pl l X < 10 ^ X := by
  have h1 := nval_lt l h
  have h2 := Nat.mul_lt_mul_of_pos_right h1 (ten_pos (X - l.length))
  rw [← Nat.pow_add, show l.length + (X - l.length) = X by omega] at h2
  exact h2
theorem pl_cons (c : UInt8) (r : List UInt8) (X : Nat) (hX : r.length ≤ X) : pl (c :: r) (X + 1) = (c.toNat - 48) * 10 ^ X + pl r X := by
  unfold pl
  rw [nval_cons, List.length_cons, show X + 1 - (r.length + 1) = X - r.length by omega, Nat.add_mul, Nat.mul_assoc, ← Nat.pow_add, show r.length + (X - r.length) = X by omega]
theorem cmp_digits : ∀ (s t : List UInt8) (X : Nat), digL s → digL t → (∀ x d, s = x ++ [d] → d ≠ 48) → (∀ x d, t = x ++ [d] → d ≠ 48) → s.length ≤ X → t.length ≤ X →
    compareBytes s t = cmpN (pl s X) (pl t X) := by
  intro s
  induction s with
  | nil =>
    intro t X _ ht _ hlt _ hX
    cases t with
    | nil => simp [compareBytes, cmpN]
    | cons d r =>
      have h1 : 0 < pl (d :: r) X := Nat.mul_pos (nval_some _ ht (by simp) hlt) (ten_pos _)
      have h0 : pl [] X = 0 := by unfold pl; rw [show nval [] = 0 from rfl, Nat.zero_mul]
      rw [compareBytes, cmpN, h0, if_pos h1]
  | cons c s ih =>
    intro t X hs ht hls hlt hXs hX
    cases t with
    | nil =>
      have h1 : 0 < pl (c :: s) X := Nat.mul_pos (nval_some _ hs (by simp) hls) (ten_pos _)
      have h0 : pl [] X = 0 := by unfold pl; rw [show nval [] = 0 from rfl, Nat.zero_mul]
      rw [compareBytes, cmpN, h0, if_neg (by omega), if_pos h1]
    | cons d r =>
      obtain ⟨Y, rfl⟩ : ∃ Y, X = Y + 1 := ⟨X - 1, by simp at hX; omega⟩
      have l1 : s.length ≤ Y := by simpa using hXs
      have l2 : r.length ≤ Y := by simpa using hX
      obtain ⟨ds, es⟩ := bare_tail hs hls
      obtain ⟨dr, er⟩ := bare_tail ht hlt
      have h := ih r Y ds dr es er l1 l2
      have b1 := pl_lt s Y ds l1
      have b2 := pl_lt r Y dr l2
      have hc := hs c (by simp)
      have hd := ht d (by simp)
      rw [compareBytes, pl_cons c s Y l1, pl_cons d r Y l2]
      rcases Nat.lt_trichotomy c.toNat d.toNat with g | g | g
      · rw [if_pos (UInt8.lt_iff_toNat_lt.2 g)]
        have e : (c.toNat - 48 + 1) * 10 ^ Y ≤ (d.toNat - 48) * 10 ^ Y := Nat.mul_le_mul_right _ (by omega)
        rw [Nat.add_mul, Nat.one_mul] at e
        rw [cmpN, if_pos (by omega)]
      · have e : c = d := UInt8.toNat_inj.1 g
        subst e
        rw [if_neg (by rw [UInt8.lt_iff_toNat_lt]; omega), if_neg (by rw [UInt8.lt_iff_toNat_lt]; omega), h]
        unfold cmpN
        repeat' split
        all_goals omega
      · rw [if_neg (by rw [UInt8.lt_iff_toNat_lt]; omega), if_pos (UInt8.lt_iff_toNat_lt.2 g)]
        have e : (d.toNat - 48 + 1) * 10 ^ Y ≤ (c.toNat - 48) * 10 ^ Y := Nat.mul_le_mul_right _ (by omega)
        rw [Nat.add_mul, Nat.one_mul] at e
        rw [cmpN, if_neg (by omega), if_pos (by omega)]
/-- the size of a decimal number, times 10^E -/
def val (a : ByteArray) (p : Int) (E : Nat) : Nat := nval a.data.toList * 10 ^ (p - a.size + E).toNat
def sval (na : Bool) (a : ByteArray) (p : Int) (E : Nat) : Int := if na = true then -(val a p E : Int) else val a p E
theorem val_pl (a : ByteArray) (p : Int) (E : Nat) (hf : fineB a = true) (hE : 0 ≤ p - a.size + E) :
    (plainL a.data.toList).length ≤ (p - leadL a.data.toList + E).toNat ∧ 0 ≤ p - leadL a.data.toList + E ∧ val a p E = pl (plainL a.data.toList) (p - leadL a.data.toList + E).toNat := by
  obtain ⟨k, hl, hv⟩ := nval_plain a.data.toList
  rw [bytes_len] at hl
  refine ⟨by omega, by omega, ?_⟩
  unfold val pl
  rw [hv, Nat.mul_assoc, ← Nat.pow_add]
  congr 2
  omega
theorem val_zero (a : ByteArray) (p : Int) (E : Nat) (hf : fineB a = true) : smB a = decide (val a p E ≠ 0) := by
  obtain ⟨k, hl, hv⟩ := nval_plain a.data.toList
  obtain ⟨k2, e, h1, h2⟩ := plain_parts a.data.toList
  have hd : digL (plainL a.data.toList) := (bare_plain _ (digL_of_fine _ hf)).dig
  unfold smB val
  by_cases h : plainL a.data.toList = []
  · have h0 : nval a.data.toList = 0 := by rw [hv, h, show nval [] = 0 from rfl, Nat.zero_mul]
    rw [h0, Nat.zero_mul]
    simp [plainS, h]
  · have h0 : 0 < nval a.data.toList := by rw [hv]; exact Nat.mul_pos (nval_some _ hd h h2) (ten_pos _)
    have h3 : 0 < nval a.data.toList * 10 ^ (p - a.size + E).toNat := Nat.mul_pos h0 (ten_pos _)
    have hne : (plainL a.data.toList).isEmpty = false := by simpa using h
    have e1 : (plainS a).data.toList = plainL a.data.toList := by unfold plainS; simp
    rw [e1, hne, decide_eq_true (Nat.pos_iff_ne_zero.1 h3)]
    rfl
theorem szP_val (a b : ByteArray) (p q : Int) (E : Nat) (ha : fineB a = true) (hb : fineB b = true) (sa : a.size ≤ 1099511627776) (sb : b.size ≤ 1099511627776) (ea : 0 ≤ p - a.size + E) (eb : 0 ≤ q - b.size + E)
    (na : val a p E ≠ 0) (nb : val b q E ≠ 0) : szP a b p q = cmpN (val a p E) (val b q E) := by
  obtain ⟨la, ea', va⟩ := val_pl a p E ha ea
  obtain ⟨lb, eb', vb⟩ := val_pl b q E hb eb
  have hla := lead_le a.data.toList
  have hlb := lead_le b.data.toList
  rw [bytes_len] at hla hlb
  have Ba := bare_plain _ (digL_of_fine _ ha)
  have Bb := bare_plain _ (digL_of_fine _ hb)
  unfold szP cmpStr
  rw [size_lex _ _ _ _ _ (by omega) (by omega)]
  have e1 : (plainS a).data.toList = plainL a.data.toList := by unfold plainS; simp
  have e2 : (plainS b).data.toList = plainL b.data.toList := by unfold plainS; simp
  rw [e1, e2]
  have a1 := pl_lt _ _ Ba.dig la
  have b1 := pl_lt _ _ Bb.dig lb
  rw [← va] at a1
  rw [← vb] at b1
  have na' : plainL a.data.toList ≠ [] := fun e => na (by rw [va, e]; unfold pl; rw [show nval [] = 0 from rfl, Nat.zero_mul])
  have nb' : plainL b.data.toList ≠ [] := fun e => nb (by rw [vb, e]; unfold pl; rw [show nval [] = 0 from rfl, Nat.zero_mul])
  have lo : ∀ (l : List UInt8) (X : Nat), Bare l → l ≠ [] → l.length ≤ X → 10 ^ (X - 1) ≤ pl l X := by
    intro l X hB hn hX
    have hp := (bare_pos l hB hn).1
    have hl0 : 0 < l.length := List.length_pos_iff.2 hn
    have h2 := Nat.mul_le_mul_right (10 ^ (X - l.length)) hp
    rw [← Nat.pow_add, show l.length - 1 + (X - l.length) = X - 1 by omega] at h2
    exact h2
  have a2 := lo _ _ Ba na' la
  have b2 := lo _ _ Bb nb' lb
  rw [← va] at a2
  rw [← vb] at b2
  by_cases h1 : p - leadL a.data.toList < q - leadL b.data.toList
  · rw [if_pos h1]
    have : 10 ^ (p - leadL a.data.toList + E).toNat ≤ 10 ^ ((q - leadL b.data.toList + E).toNat - 1) := Nat.pow_le_pow_right (by decide) (by omega)
    rw [cmpN, if_pos (by omega)]
  · rw [if_neg h1]
    by_cases h2 : q - leadL b.data.toList < p - leadL a.data.toList
    · rw [if_pos h2]
      have : 10 ^ (q - leadL b.data.toList + E).toNat ≤ 10 ^ ((p - leadL a.data.toList + E).toNat - 1) := Nat.pow_le_pow_right (by decide) (by omega)
      rw [cmpN, if_neg (by omega), if_pos (by omega)]
    · rw [if_neg h2]
      have e : q - leadL b.data.toList = p - leadL a.data.toList := by omega
      rw [e] at lb vb
      rw [va, vb]
      exact cmp_digits _ _ _ Ba.dig Bb.dig Ba.last Bb.last la lb
theorem cmpV_val (na nb : Bool) (a b : ByteArray) (p q : Int) (E : Nat) (hf : bothB a b = true) (sa : a.size ≤ 1099511627776) (sb : b.size ≤ 1099511627776) (ea : 0 ≤ p - a.size + E) (eb : 0 ≤ q - b.size + E) :
    cmpV na a p nb b q = sgn (sval na a p E - sval nb b q E) := by
  have hf' := hf
  unfold bothB at hf'
  rw [Bool.and_eq_true] at hf'
  unfold cmpV
  rw [if_pos hf]
  have za := val_zero a p E hf'.1
  have zb := val_zero b q E hf'.2
  have hz := szP_val a b p q E hf'.1 hf'.2 sa sb ea eb
  generalize szP a b p q = z at *
  unfold sval
  generalize val a p E = x at *
  generalize val b q E = y at *
  rw [za, zb]
  by_cases hx : x = 0
  · subst hx
    by_cases hy : y = 0
    · subst hy
      cases na <;> cases nb <;> simp [cmpP, signN, sgn]
    · have : (0 : Int) < y := by omega
      cases na <;> cases nb <;> simp [cmpP, signN, sgn, hy] <;> omega
  · by_cases hy : y = 0
    · subst hy
      have : (0 : Int) < x := by omega
      cases na <;> cases nb <;> simp [cmpP, signN, sgn, hx] <;> omega
    · rw [hz hx hy]
      have h1 : (0 : Int) < x := by omega
      have h2 : (0 : Int) < y := by omega
      unfold cmpN
      cases na <;> cases nb <;> simp [cmpP, signN, sgn, hx, hy] <;> repeat' split
      all_goals omega
/-- places enough for a number -/
theorem places (s : ByteArray) (p : Int) : ∃ E : Nat, ∀ F : Nat, E ≤ F → 0 ≤ p - s.size + F := ⟨(s.size - p).toNat, fun F h => by omega⟩
theorem sgn_cases (x : Int) : sgn x = -1 ∨ sgn x = 0 ∨ sgn x = 1 := by unfold sgn; repeat' split
                                                                       all_goals simp
theorem cmpV_no (na nb : Bool) (a b : ByteArray) (p q : Int) (h : bothB a b = false) : cmpV na a p nb b q = 0 := by unfold cmpV; rw [h]; rfl
theorem bothB_comm (a b : ByteArray) : bothB b a = bothB a b := Bool.and_comm _ _
end Go.Proofs.YtgckfilmhnapeaaDoor

namespace Go.Proofs.YtgckfilmhnapeaaDoor
open Go.RowKit Go.Lib
set_option linter.unusedVariables false

/-- the digits that are told of a number and its power of ten are the only ones -/
theorem dg_unique (N M k j : Nat) (hN : N ≠ 0) (hM : M ≠ 0) (h : N * 10 ^ j = M * 10 ^ k) :
    plainS (digitsS N) = plainS (digitsS M) ∧ ((digitsS N).size : Int) - (k : Int) = ((digitsS M).size : Int) - (j : Int) := by
  have dN := digL_of_fine _ (digitsS_fine N hN)
  have dM := digL_of_fine _ (digitsS_fine M hM)
  obtain ⟨a, la, va⟩ := nval_plain (digitsS N).data.toList
  obtain ⟨b, lb, vb⟩ := nval_plain (digitsS M).data.toList
  rw [nval_digitsS N hN] at va
  rw [nval_digitsS M hM] at vb
  rw [(digitsS_lead N hN).2, bytes_len] at la
  rw [(digitsS_lead M hM).2, bytes_len] at lb
  have nN : plainL (digitsS N).data.toList ≠ [] := fun e => by rw [e] at va; simp [nval] at va; exact hN va
  have nM : plainL (digitsS M).data.toList ≠ [] := fun e => by rw [e] at vb; simp [nval] at vb; exact hM vb
  rw [va, vb, Nat.mul_assoc, Nat.mul_assoc, ← Nat.pow_add, ← Nat.pow_add] at h
  obtain ⟨e1, e2⟩ := bare_unique _ _ (bare_plain _ dN) (bare_plain _ dM) nN nM _ _ h
  refine ⟨by unfold plainS; rw [e1], ?_⟩
  rw [e1] at la
  omega
theorem half_spec : RdSpec 10 24 30 5 (-1) 14336 := near_exact _ _ _ _ _ (by decide +kernel) (by decide +kernel) (by decide +kernel)
theorem half_text : plainS (digitsS 5) = ⟨#[53]⟩ ∧ (digitsS 5).size = 1 := by
  have h : digitsS 5 = ⟨#[53]⟩ := by decide +kernel
  rw [h]
  exact ⟨by decide +kernel, by decide +kernel⟩
theorem half_exact (N k : Nat) (hN : N ≠ 0) (h : N * 2 ^ 24 = pv 10 14336 * 10 ^ k) : plainS (digitsS N) = ⟨#[53]⟩ ∧ ((digitsS N).size : Int) - (k : Int) = 0 := by
  have hp : pv 10 14336 = 2 ^ 23 := by decide +kernel
  have h2 : N * 2 = 10 ^ k := by
    rw [hp] at h
    have e : (2 : Nat) ^ 24 = 2 ^ 23 * 2 := by decide
    rw [e, Nat.mul_left_comm] at h
    exact Nat.eq_of_mul_eq_mul_left (by decide) h
  obtain ⟨e1, e2⟩ := dg_unique N 5 k 1 hN (by decide) (by rw [← h2]; omega)
  rw [half_text.1] at e1
  rw [half_text.2] at e2
  exact ⟨e1, by rw [e2]; decide⟩

set_option maxRecDepth 100000 in
set_option maxHeartbeats 4000000 in
theorem lives7_any (w : World) (hT : Tabs w) : Calls Tryd.prog 18 #[] w fun e w' => e = .returned (.bool true) ∧ Below w.heap.size w w' := by
  have HTB := Lib.hid (fun wx (hb : Below w.heap.size w wx) => hT.below hb)
  have HR : Hid (∀ wx, Below w.heap.size w wx → Calls Tryd.prog 42 #[.agg #[.bool false, .string ⟨#[53]⟩, .int .i64 0]] wx fun e w' => e = .returned (.tuple #[.int .u16 14336, .bool true]) ∧ Below wx.heap.size wx w') := Lib.hid (fun wx hb => by
    refine (dread_C false ⟨#[53]⟩ 0 wx (HTB.out wx hb) (by decide +kernel) (by decide +kernel) (by decide) (by decide)).mono ?_
    rintro e w' ⟨sz, rfl, hs, hb⟩
    have hsz : sz = 14336 := hs.unique half_spec
    subst hsz
    exact ⟨rfl, hb⟩)
  have HX : Hid (∀ wx, Below w.heap.size w wx → Calls Tryd.prog 36 #[.int .u16 14336] wx fun e w' => e = .returned (.tuple #[.agg #[.bool false, .string ⟨#[53]⟩, .int .i64 0], .bool true]) ∧ Below wx.heap.size wx w') := Lib.hid (fun wx hb => by
    refine (exact_C 14336 (by decide) wx (HTB.out wx hb)).mono ?_
    rintro e w' ⟨hb, ⟨h, -⟩ | ⟨h, -⟩ | ⟨-, -, N, k, rfl, hN, hv⟩⟩
    · exact absurd h (by decide)
    · exact absurd h (by decide)
    · obtain ⟨e1, e2⟩ := half_exact N k hN hv
      refine ⟨?_, hb⟩
      rw [e1, e2]
      rfl)
  have HC : Hid (∀ wx, Calls Tryd.prog 10 #[.agg #[.bool false, .string ⟨#[49]⟩, .int .i64 0], .agg #[.bool false, .string ⟨#[53]⟩, .int .i64 0]] wx fun e w' => e = .returned (.tuple #[.int .i64 (-1), .bool true]) ∧ Below wx.heap.size wx w') := Lib.hid (fun wx => by
    refine (dcmp_any false false ⟨#[49]⟩ ⟨#[53]⟩ 0 0 wx (by decide) (by decide) (by decide) (by decide) (by decide +kernel) (by decide +kernel)).mono ?_
    rintro e w' ⟨rfl, hb⟩
    refine ⟨?_, hb⟩
    rw [show cmpV false ⟨#[49]⟩ 0 false ⟨#[53]⟩ 0 = -1 by decide +kernel, show bothB ⟨#[49]⟩ ⟨#[53]⟩ = true by decide +kernel])
  clear hT HTB
  go_enter Tryd.func18, Tryd.ntmps18
  go_wp2_with fail
  refine (HR.out _ (Below.refl _ _)).mono ?_
  rintro e w1 ⟨rfl, hb1⟩
  have HB1 := Lib.hid hb1
  clear hb1
  go_wp2_with fail
  refine (HX.out _ HB1.out).mono ?_
  rintro e w2 ⟨rfl, hb2⟩
  have HB2 := Lib.hid (HB1.out.trans (hb2.mono HB1.out.size))
  clear hb2
  go_wp2_with fail
  have HB3 := Lib.hid ((HB2.out.alloc HB2.out.size (.cells #[.bool false, .string ⟨#[53]⟩, .int .i64 0] 23)))
  have HK3 := Lib.hid (dgC_new w2 false ⟨#[53]⟩ 0 23)
  refine (HC.out _).mono ?_
  rintro e w4 ⟨rfl, hb4⟩
  have HB4 := Lib.hid (HB3.out.trans (hb4.mono HB3.out.size))
  have HK4 := Lib.hid (HK3.out.below hb4)
  have n0 := HK4.out.c0
  have n1 := HK4.out.c1
  have n2 := HK4.out.c2
  clear hb4 HR HX HC HB1 HB2 HB3 HK3 HK4
  go_wp2_with fail
  go_ret
  exact ⟨rfl, HB4.out⟩
end Go.Proofs.YtgckfilmhnapeaaDoor

namespace Go.Proofs.YtgckfilmhnapeaaDoor
open Go.RowKit Go.Lib
set_option linter.unusedVariables false

/-- the digits of a number in so many places, the highest first -/
def hd (D n : Nat) : List Nat := (digs 10 D n).reverse
theorem hd_len (D n : Nat) : (hd D n).length = n := by unfold hd; rw [List.length_reverse, digs_len]
theorem hd_lt (D n : Nat) : ∀ x ∈ hd D n, x < 10 := by
  intro x hx
  unfold hd at hx
  exact digs_lt 10 D n (by decide) x (List.mem_reverse.1 hx)
theorem hd_zero (D : Nat) : hd D 0 = [] := rfl
theorem hd_cons (D n : Nat) : hd D (n + 1) = (D / 10 ^ n % 10) :: hd D n := by
  unfold hd
  rw [digs_succ, List.reverse_append]
  rfl
theorem hd_get (D n i : Nat) (h : i < n) : (hd D n).getD i 0 = D / 10 ^ (n - 1 - i) % 10 := by
  have hl : i < (hd D n).length := by rw [hd_len]; exact h
  rw [List.getD_eq_getElem?_getD, List.getElem?_eq_getElem hl, Option.getD_some]
  simp only [hd, digs, List.getElem_reverse, List.getElem_map, List.getElem_range, List.length_map, List.length_range]
theorem hd_get_lt (D n i : Nat) (h : i < n) : (hd D n).getD i 0 < 10 := by rw [hd_get D n i h]; exact Nat.mod_lt _ (by decide)
theorem hd_snoc (D n d : Nat) (h : d < 10) : hd (10 * D + d) (n + 1) = hd D n ++ [d] := by
  induction n generalizing D d with
  | zero =>
    rw [hd_cons, hd_zero, hd_zero]
    show [(10 * D + d) / 1 % 10] = [d]
    rw [Nat.div_one]
    congr 1
    omega
  | succ n ih =>
    rw [hd_cons, ih D d h, hd_cons D n, List.cons_append]
    congr 2
    rw [Nat.pow_succ, Nat.mul_comm (10 ^ n), ← Nat.div_div_eq_div_mul]
    congr 1
    omega
theorem hd_bval (D n : Nat) (h : D < 10 ^ n) : bval 10 (hd D n).reverse = D := by unfold hd; rw [List.reverse_reverse, digs_all 10 D n h]
/-- doubling: what is carried behind j places -/
def cr2 (D j : Nat) : Nat := 2 * (D % 10 ^ j) / 10 ^ j
theorem cr2_zero (D : Nat) : cr2 D 0 = 0 := by simp [cr2, Nat.mod_one]
theorem cr2_le (D j : Nat) : cr2 D j ≤ 1 := by
  unfold cr2
  have h := Nat.mod_lt D (ten_pos j)
  have : 2 * (D % 10 ^ j) / 10 ^ j < 2 := (Nat.div_lt_iff_lt_mul (ten_pos j)).2 (by omega)
  omega
theorem cr2_eq (D j : Nat) : 2 * D / 10 ^ j = 2 * (D / 10 ^ j) + cr2 D j := by
  unfold cr2
  have h := Nat.div_add_mod D (10 ^ j)
  have e : 2 * D = 2 * (D % 10 ^ j) + 10 ^ j * (2 * (D / 10 ^ j)) := by
    have := congrArg (2 * ·) h
    simp only [Nat.mul_add] at this
    rw [← this, Nat.mul_left_comm, Nat.add_comm]
  rw [e, Nat.add_mul_div_left _ _ (ten_pos j), Nat.add_comm]
theorem cr2_step (D j : Nat) : (2 * (D / 10 ^ j % 10) + cr2 D j) % 10 = 2 * D / 10 ^ j % 10 ∧ (2 * (D / 10 ^ j % 10) + cr2 D j) / 10 = cr2 D (j + 1) := by
  have h1 := cr2_eq D j
  have h2 := cr2_eq D (j + 1)
  rw [Nat.pow_succ, ← Nat.div_div_eq_div_mul, ← Nat.div_div_eq_div_mul] at h2
  generalize 2 * D / 10 ^ j = a at *
  generalize D / 10 ^ j = b at *
  generalize cr2 D j = c at *
  generalize cr2 D (j + 1) = d at *
  omega
theorem cr2_end (D n : Nat) (h : D < 10 ^ n) : 2 * D / 10 ^ n % 10 = cr2 D n := by
  have h1 := cr2_eq D n
  have h2 := cr2_le D n
  rw [Nat.div_eq_of_lt h] at h1
  omega
/-- the list at work: j digits are laid behind -/
def tw (D n j : Nat) : List Nat := List.replicate (n + 1 - j) 0 ++ hd (2 * D) j
theorem tw_len (D n j : Nat) (h : j ≤ n + 1) : (tw D n j).length = n + 1 := by unfold tw; rw [List.length_append, List.length_replicate, hd_len]; omega
theorem tw_zero (D n : Nat) : tw D n 0 = List.replicate (n + 1) 0 := by unfold tw; rw [hd_zero, List.append_nil]; rfl
theorem tw_set (D n j : Nat) (h : j < n + 1) : (tw D n j).set (n - j) (2 * D / 10 ^ j % 10) = tw D n (j + 1) := by
  unfold tw
  rw [hd_cons, List.set_append_left _ _ (by rw [List.length_replicate]; omega)]
  have e : n + 1 - j = (n - j) + 1 := by omega
  have e2 : n + 1 - (j + 1) = n - j := by omega
  rw [e, e2, List.replicate_succ', List.set_append_right _ _ (by rw [List.length_replicate]; exact Nat.le_refl _), List.length_replicate, Nat.sub_self, List.set_cons_zero, List.append_assoc]
  rfl
theorem tw_full (D n : Nat) : tw D n (n + 1) = hd (2 * D) (n + 1) := by unfold tw; rw [Nat.sub_self]; rfl
/-- halving: the first i digits as a number -/
def pfx (D n i : Nat) : Nat := D / 10 ^ (n - i)
theorem pfx_zero (D n : Nat) (h : D < 10 ^ n) : pfx D n 0 = 0 := by unfold pfx; rw [Nat.sub_zero]; exact Nat.div_eq_of_lt h
theorem pfx_full (D n : Nat) : pfx D n n = D := by unfold pfx; rw [Nat.sub_self]; simp
theorem pfx_succ (D n i : Nat) (h : i < n) : pfx D n (i + 1) = 10 * pfx D n i + (hd D n).getD i 0 := by
  rw [hd_get D n i h]
  unfold pfx
  have e : n - i = (n - 1 - i) + 1 := by omega
  have e2 : n - (i + 1) = n - 1 - i := by omega
  rw [e, e2, Nat.pow_succ, ← Nat.div_div_eq_div_mul]
  omega
theorem half_step (D n i : Nat) (h : i < n) : hd (pfx D n (i + 1) / 2) (i + 1) = hd (pfx D n i / 2) i ++ [(10 * (pfx D n i % 2) + (hd D n).getD i 0) / 2] ∧ pfx D n (i + 1) % 2 = (10 * (pfx D n i % 2) + (hd D n).getD i 0) % 2 := by
  have hlt := hd_get_lt D n i h
  rw [pfx_succ D n i h]
  generalize (hd D n).getD i 0 = d at *
  generalize pfx D n i = P at *
  constructor
  · rw [← hd_snoc _ _ _ (by omega)]
    congr 1
    omega
  · omega
/-- half of a list of digits -/
def hvD (D : Nat) : Nat := if D % 2 = 1 then 5 * D else D / 2
def hvN (D n : Nat) : Nat := if D % 2 = 1 then n + 1 else n
theorem half_odd (D n : Nat) (h : D % 2 = 1) : hd (hvD D) (hvN D n) = hd (D / 2) n ++ [5] := by
  unfold hvD hvN
  rw [if_pos h, if_pos h, ← hd_snoc _ _ _ (by decide)]
  congr 1
  omega
theorem half_even (D n : Nat) (h : ¬ D % 2 = 1) : hd (hvD D) (hvN D n) = hd (D / 2) n := by
  unfold hvD hvN
  rw [if_neg h, if_neg h]
theorem hv_lt (D n : Nat) (h : D < 10 ^ n) : hvD D < 10 ^ hvN D n := by
  unfold hvD hvN
  split
  · rw [Nat.pow_succ]; omega
  · omega
/-- the number and its power of ten, half as much -/
def Dec (D n : Nat) (P : Int) (M : Nat) (t : Nat) : Prop := ∃ k : Nat, (k : Int) = n - P ∧ D * 2 ^ t = M * 10 ^ k
theorem dec_half (D n M t : Nat) (P : Int) (h : Dec D n P M t) : Dec (hvD D) (hvN D n) P M (t + 1) := by
  obtain ⟨k, hk, hv⟩ := h
  unfold hvD hvN
  split
  · refine ⟨k + 1, by omega, ?_⟩
    rw [Nat.pow_succ, Nat.pow_succ, ← Nat.mul_assoc, ← Nat.mul_assoc, ← hv, Nat.mul_assoc 5]
    omega
  · refine ⟨k, by omega, ?_⟩
    have e : D = 2 * (D / 2) := by omega
    rw [← hv, Nat.pow_succ, ← Nat.mul_assoc, Nat.mul_right_comm]
    congr 1
    omega
theorem hv_pos (D : Nat) (h : D ≠ 0) : hvD D ≠ 0 := by unfold hvD; split <;> omega
theorem hvN_le (D n : Nat) : n ≤ hvN D n ∧ hvN D n ≤ n + 1 := by unfold hvN; split <;> omega
/-- the digits in a text -/
theorem hd_text (D n : Nat) (h0 : D ≠ 0) (h : D < 10 ^ n) : ∃ j, (digitsS D).size + j = n ∧ (hd D n).map (48 + ·) = List.replicate j 48 ++ dtext D := by
  have hl := dig_len_le (b := 10) (by decide) D n h
  rw [← digitsS_size D h0] at hl
  refine ⟨n - (digitsS D).size, by omega, ?_⟩
  obtain ⟨m, hm⟩ := trm_spec (digs 10 D n)
  rw [trm_dig (by decide) _ (digs_lt 10 D n (by decide)), digs_all 10 D n h] at hm
  have hlen := congrArg List.length hm
  rw [digs_len, List.length_append, List.length_replicate, ← digitsS_size D h0] at hlen
  unfold hd dtext
  rw [hm, List.reverse_append, List.map_append, List.reverse_replicate, List.map_replicate, List.map_reverse]
  congr 2
  omega
theorem plain_noughts (j : Nat) (l : List UInt8) : plainL (List.replicate j 48 ++ l) = plainL l ∧ trimLeftB (List.replicate j 48 ++ l) 48 = trimLeftB l 48 := by
  have h : trimLeftB (List.replicate j 48 ++ l) 48 = trimLeftB l 48 := by
    unfold trimLeftB
    induction j with
    | zero => rfl
    | succ j ih => rw [List.replicate_succ, List.cons_append, List.dropWhile_cons]; simp
  exact ⟨by unfold plainL; rw [h], h⟩
def htx (D n : Nat) : List Nat := (hd D n).map (48 + ·)
theorem htx_len (D n : Nat) : (htx D n).length = n := by unfold htx; rw [List.length_map, hd_len]
theorem htx_mem (D n : Nat) : ∀ x ∈ htx D n, 48 ≤ x ∧ x ≤ 57 := by
  intro x hx
  obtain ⟨y, hy, rfl⟩ := List.mem_map.1 hx
  have := hd_lt D n y hy
  omega
theorem htx_take (D n i : Nat) (h : i < n) : (htx D n).take (i + 1) = (htx D n).take i ++ [48 + (hd D n).getD i 0] := by
  have hl : i < (htx D n).length := by rw [htx_len]; exact h
  have hl2 : i < (hd D n).length := by rw [hd_len]; exact h
  rw [List.take_succ_eq_append_getElem hl]
  congr 2
  simp only [htx, List.getElem_map]
  rw [List.getD_eq_getElem?_getD, List.getElem?_eq_getElem hl2, Option.getD_some]
/-- what is told of the digits is what the program tells -/
theorem exact_same (D n : Nat) (P : Int) (M l N k : Nat) (hD : D ≠ 0) (hlt : D < 10 ^ n) (h : Dec D n P M l) (hN : N ≠ 0) (hp : N * 2 ^ l = M * 10 ^ k) :
    plainS (strOf (htx D n)) = plainS (digitsS N) ∧ P - (leadL (strOf (htx D n)).data.toList : Nat) = ((digitsS N).size : Int) - k := by
  obtain ⟨j, hj, e⟩ := hd_text D n hD hlt
  obtain ⟨q, hq, hv⟩ := h
  have el : (strOf (htx D n)).data.toList = List.replicate j 48 ++ (digitsS D).data.toList := by
    unfold htx
    rw [e, digitsS_list D hD]
    unfold strOf
    simp
  have hpl := plain_noughts j (digitsS D).data.toList
  have hld : leadL (strOf (htx D n)).data.toList = j := by
    unfold leadL
    rw [el, hpl.2, (digitsS_lead D hD).1, List.length_append, List.length_replicate]
    omega
  obtain ⟨u1, u2⟩ := dg_unique D N q k hD hN (by
    apply Nat.eq_of_mul_eq_mul_right (Nat.two_pow_pos l)
    rw [Nat.mul_right_comm, hv, Nat.mul_right_comm N, hp, Nat.mul_right_comm])
  refine ⟨?_, ?_⟩
  · rw [← u1]
    unfold plainS
    rw [el, hpl.1]
  · rw [hld, ← u2]
    omega
end Go.Proofs.YtgckfilmhnapeaaDoor

namespace Go.Proofs.YtgckfilmhnapeaaDoor
open Go.RowKit Go.Lib
set_option linter.unusedVariables false

/-- what is told of a pattern's digits -/
def XVal (f l inf : Nat) (neg : Bool) (sz : Nat) (ok ng : Bool) (t : ByteArray) (P : Int) : Prop :=
  (inf ≤ sz ∧ ok = false ∧ ng = false ∧ t = ⟨#[]⟩ ∧ P = 0) ∨ (sz = 0 ∧ sz < inf ∧ ok = true ∧ ng = neg ∧ t = ⟨#[]⟩ ∧ P = 0) ∨
    (sz < inf ∧ sz ≠ 0 ∧ ok = true ∧ ng = neg ∧ ∃ N k : Nat, N ≠ 0 ∧ N * 2 ^ l = pv f sz * 10 ^ k ∧ t = plainS (digitsS N) ∧ P = ((digitsS N).size : Int) - k)
theorem XVal.of_ex {f l inf sz : Nat} {neg : Bool} {w w' : World} {e : Ending} (h : ExPost f l inf neg sz w e w') (hi : 0 < inf) :
    ∃ ok ng t P, e = .returned (.tuple #[.agg #[.bool ng, .string t, .int .i64 P], .bool ok]) ∧ Below w.heap.size w w' ∧ XVal f l inf neg sz ok ng t P := by
  obtain ⟨hb, ⟨h1, rfl⟩ | ⟨h1, rfl⟩ | ⟨h1, h2, N, k, rfl, h3, h4⟩⟩ := h
  · exact ⟨_, _, _, _, rfl, hb, .inl ⟨h1, rfl, rfl, rfl, rfl⟩⟩
  · exact ⟨_, _, _, _, rfl, hb, .inr (.inl ⟨h1, by omega, rfl, rfl, rfl, rfl⟩)⟩
  · exact ⟨_, _, _, _, rfl, hb, .inr (.inr ⟨h1, h2, rfl, rfl, N, k, h3, h4, rfl, rfl⟩)⟩
theorem dg_pair {N M k j l P : Nat} (hN : N ≠ 0) (hM : M ≠ 0) (h : N * 2 ^ l = P * 10 ^ k) (g : M * 2 ^ l = P * 10 ^ j) :
    plainS (digitsS N) = plainS (digitsS M) ∧ ((digitsS N).size : Int) - (k : Int) = ((digitsS M).size : Int) - (j : Int) :=
  dg_unique N M k j hN hM (by
    apply Nat.eq_of_mul_eq_mul_right (Nat.two_pow_pos l)
    rw [Nat.mul_right_comm, h, Nat.mul_right_comm M, g, Nat.mul_right_comm])
theorem XVal.same {f l inf sz : Nat} {neg ok ng ok' ng' : Bool} {t t' : ByteArray} {P P' : Int} (h : XVal f l inf neg sz ok ng t P) (g : XVal f l inf neg sz ok' ng' t' P') : ok = ok' ∧ ng = ng' ∧ t = t' ∧ P = P' := by
  rcases h with ⟨h1, rfl, rfl, rfl, rfl⟩ | ⟨h1, h2, rfl, rfl, rfl, rfl⟩ | ⟨h1, h2, rfl, rfl, N, k, h3, h4, rfl, rfl⟩
  · rcases g with ⟨g1, rfl, rfl, rfl, rfl⟩ | ⟨g1, g2, rfl, rfl, rfl, rfl⟩ | ⟨g1, g2, rfl, rfl, M, j, g3, g4, rfl, rfl⟩
    · exact ⟨rfl, rfl, rfl, rfl⟩
    · omega
    · omega
  · rcases g with ⟨g1, rfl, rfl, rfl, rfl⟩ | ⟨g1, g2, rfl, rfl, rfl, rfl⟩ | ⟨g1, g2, rfl, rfl, M, j, g3, g4, rfl, rfl⟩
    · omega
    · exact ⟨rfl, rfl, rfl, rfl⟩
    · omega
  · rcases g with ⟨g1, rfl, rfl, rfl, rfl⟩ | ⟨g1, g2, rfl, rfl, rfl, rfl⟩ | ⟨g1, g2, rfl, rfl, M, j, g3, g4, rfl, rfl⟩
    · omega
    · omega
    · obtain ⟨e1, e2⟩ := dg_pair h3 g3 h4 g4
      exact ⟨rfl, rfl, e1, e2⟩
theorem fine_of_digL (l : List UInt8) (h : digL l) : fineL l = true := by
  unfold fineL
  rw [List.all_eq_true]
  intro c hc
  have := h c hc
  simp [dgB, this]
theorem plain_list (s : ByteArray) : (plainS s).data.toList = plainL s.data.toList := by unfold plainS; simp
/-- the digits of a pattern that is a number and not 0, told in the widest way -/
theorem XVal.wide {f l inf sz : Nat} {neg ok ng : Bool} {t : ByteArray} {P : Int} (h : XVal f l inf neg sz ok ng t P) (hok : ok = true) (h0 : sz ≠ 0) :
    pv f sz * 5 ^ l ≠ 0 ∧ t = plainS (digitsS (pv f sz * 5 ^ l)) ∧ P = ((digitsS (pv f sz * 5 ^ l)).size : Int) - l := by
  rcases h with ⟨h1, rfl, rfl, rfl, rfl⟩ | ⟨h1, h2, rfl, rfl, rfl, rfl⟩ | ⟨h1, h2, rfl, rfl, N, k, h3, h4, rfl, rfl⟩
  · cases hok
  · exact absurd h1 h0
  · have hp : 0 < pv f sz := by
      have := pv_lt f (show 0 < sz by omega)
      omega
    have hM : pv f sz * 5 ^ l ≠ 0 := Nat.pos_iff_ne_zero.1 (Nat.mul_pos hp (Nat.pow_pos (by decide)))
    obtain ⟨e1, e2⟩ := dg_pair (M := pv f sz * 5 ^ l) (j := l) h3 hM h4 (by rw [Nat.mul_assoc, ← Nat.mul_pow])
    exact ⟨hM, e1, e2⟩
/-- a number's plain digits: the places behind them -/
theorem plain_of_digits (N : Nat) (h : N ≠ 0) : ∃ j, (digitsS N).size = (plainS (digitsS N)).size + j ∧ N = nval (plainS (digitsS N)).data.toList * 10 ^ j ∧ Bare (plainS (digitsS N)).data.toList ∧ (plainS (digitsS N)).data.toList ≠ [] := by
  obtain ⟨j, hl, hv⟩ := nval_plain (digitsS N).data.toList
  rw [nval_digitsS N h] at hv
  rw [(digitsS_lead N h).2, bytes_len] at hl
  have hn : plainL (digitsS N).data.toList ≠ [] := fun e => by rw [e] at hv; simp [nval] at hv; exact h hv
  refine ⟨j, ?_, ?_, ?_, ?_⟩
  · rw [← bytes_len (plainS (digitsS N)), plain_list]; omega
  · rw [plain_list]; exact hv
  · rw [plain_list]; exact bare_plain _ (digL_of_fine _ (digitsS_fine N h))
  · rw [plain_list]; exact hn
theorem XVal.facts {f l W inf sz : Nat} {neg ng : Bool} {t : ByteArray} {P : Int} (h : XVal f l inf neg sz true ng t P) (hi : inf = (W + 1) * 2 ^ f) (hf : f ≤ 52) (hl : l ≤ 1074) (hW : W ≤ 2046) :
    sz < inf ∧ ng = neg ∧ fineB t = true ∧ t.size ≤ 6000 ∧ -6000 ≤ P ∧ P ≤ 6000 ∧ (sz = 0 → t = ⟨#[]⟩ ∧ P = 0) ∧
      (t.data.toList = [] → P = 0) ∧ (∀ c r, t.data.toList = c :: r → c ≠ 48) ∧ (∀ r c, t.data.toList = r ++ [c] → c ≠ 48) ∧
      ∃ j : Nat, P + (l : Int) = (j : Int) + t.size ∧ nval t.data.toList * 10 ^ j * 2 ^ l = pv f sz * 10 ^ l := by
  by_cases h0 : sz = 0
  · rcases h with ⟨h1, h2, -⟩ | ⟨h1, h2, -, rfl, rfl, rfl⟩ | ⟨h1, h2, -⟩
    · cases h2
    · refine ⟨h2, rfl, rfl, by decide, by decide, by decide, fun _ => ⟨rfl, rfl⟩, fun _ => rfl, (fun c r e => by cases e), (fun r c e => by have := congrArg List.length e; simp at this), l, ?_, ?_⟩
      · have e0 : (⟨#[]⟩ : ByteArray).size = 0 := rfl
        rw [e0]
        omega
      · rw [h0, pv_zero]
        simp [nval]
    · exact absurd h0 h2
  · obtain ⟨hN, rfl, rfl⟩ := h.wide rfl h0
    have hin : sz < inf ∧ ng = neg := by
      rcases h with ⟨h1, h2, -⟩ | ⟨h1, h2, -, h3, -⟩ | ⟨h1, h2, -, h3, -⟩
      · cases h2
      · exact ⟨h2, h3⟩
      · exact ⟨h1, h3⟩
    obtain ⟨j, hj, hv, hB, hne⟩ := plain_of_digits _ hN
    have hsz : (digitsS (pv f sz * 5 ^ l)).size ≤ f + W + 3 * l := by
      rw [digitsS_size _ hN]
      refine dig_len_le (by decide) _ _ ?_
      have h1 : pv f sz < 2 ^ (f + W) := by
        have := pv_lt f (show sz < (W + 1) * 2 ^ f by omega)
        rwa [pv_inf, ← Nat.pow_add] at this
      have h2 : (5 : Nat) ^ l ≤ 2 ^ (3 * l) := by rw [Nat.pow_mul]; exact Nat.pow_le_pow_left (by decide) l
      have h3 : pv f sz * 5 ^ l < 2 ^ (f + W) * 2 ^ (3 * l) := Nat.lt_of_le_of_lt (Nat.mul_le_mul_left _ h2) (Nat.mul_lt_mul_of_pos_right h1 (Nat.two_pow_pos _))
      rw [← Nat.pow_add] at h3
      exact Nat.lt_of_lt_of_le h3 (Nat.pow_le_pow_left (by decide) _)
    have hpos : 0 < (plainS (digitsS (pv f sz * 5 ^ l))).size := by rw [← bytes_len]; exact List.length_pos_iff.2 hne
    have hdig : fineB (plainS (digitsS (pv f sz * 5 ^ l))) = true := fine_of_digL _ hB.dig
    refine ⟨hin.1, hin.2, hdig, by omega, by omega, by omega, fun h => absurd h h0, fun h => absurd h hne, hB.first, hB.last, j, by omega, ?_⟩
    rw [← hv, Nat.mul_assoc, ← Nat.mul_pow]
theorem XVal.value {f l W inf sz : Nat} {neg ng : Bool} {t : ByteArray} {P : Int} (h : XVal f l inf neg sz true ng t P) (hi : inf = (W + 1) * 2 ^ f) (hf : f ≤ 52) (hl : l ≤ 1074) (hW : W ≤ 2046) (E : Nat) (hE : 20000 ≤ E) :
    0 ≤ P - t.size + E ∧ val t P E * 2 ^ l = pv f sz * 10 ^ E := by
  obtain ⟨-, -, -, h4, h5, h6, -, -, -, -, j, hj, hv⟩ := h.facts hi hf hl hW
  refine ⟨by omega, ?_⟩
  unfold val
  apply Nat.eq_of_mul_eq_mul_right (ten_pos l)
  have e : 10 ^ (P - t.size + E).toNat * 10 ^ l = 10 ^ j * 10 ^ E := by rw [← Nat.pow_add, ← Nat.pow_add]; congr 1; omega
  rw [Nat.mul_right_comm _ (2 ^ l), Nat.mul_assoc _ (10 ^ _) (10 ^ l), e, ← Nat.mul_assoc, Nat.mul_right_comm _ (10 ^ E), hv, Nat.mul_right_comm]
theorem XVal.back {f l W inf sz : Nat} {neg ng : Bool} {t : ByteArray} {P : Int} (h : XVal f l inf neg sz true ng t P) (hi : inf = (W + 1) * 2 ^ f) (hf : f ≤ 52) (hl : l ≤ 1074) (hW : W ≤ 2046) :
    RdSpec f l W (nval t.data.toList) (P - t.data.toList.length) sz := by
  obtain ⟨h1, -, -, h4, h5, h6, -, -, -, -, j, hj, hv⟩ := h.facts hi hf hl hW
  rw [bytes_len]
  refine near_exact _ _ _ _ _ (ten_pos _) (by omega) ?_
  apply Nat.eq_of_mul_eq_mul_right (ten_pos l)
  have e : 10 ^ (P - t.size).toNat * 10 ^ l = 10 ^ j * 10 ^ (-(P - t.size)).toNat := by rw [← Nat.pow_add, ← Nat.pow_add]; congr 1; omega
  rw [Nat.mul_right_comm _ (2 ^ l), Nat.mul_assoc _ (10 ^ _) (10 ^ l), e, ← Nat.mul_assoc, Nat.mul_right_comm _ (10 ^ (-(P - t.size)).toNat), hv, Nat.mul_right_comm]
/-- a size with its sign -/
def ssz (neg : Bool) (s : Nat) : Int := if neg = true then -(s : Int) else s
theorem sgn_pos (x y : Int) (k : Nat) (hk : 0 < k) (h : x * k = y) : sgn x = sgn y := by
  unfold sgn
  have hk' : (0 : Int) < k := by omega
  subst h
  by_cases h1 : x < 0
  · rw [if_pos h1, if_pos (Int.mul_neg_of_neg_of_pos h1 hk')]
  · rw [if_neg h1, if_neg (Int.not_lt.2 (Int.mul_nonneg (by omega) (by omega)))]
    by_cases h2 : 0 < x
    · rw [if_pos h2, if_pos (Int.mul_pos h2 hk')]
    · rw [if_neg h2]
      have : x = 0 := by omega
      rw [this, Int.zero_mul, if_neg (by decide)]
theorem sgn_pv (f : Nat) (na nb : Bool) (a b : Nat) : sgn ((if na = true then -(pv f a : Int) else pv f a) - (if nb = true then -(pv f b : Int) else pv f b)) = sgn (ssz na a - ssz nb b) := by
  have hz := pv_zero f
  have hlt : a < b → pv f a < pv f b := fun h => pv_lt f h
  have hgt : b < a → pv f b < pv f a := fun h => pv_lt f h
  have heq : a = b → pv f a = pv f b := fun h => by rw [h]
  have ha : 0 < a → pv f 0 < pv f a := fun h => pv_lt f h
  have hb : 0 < b → pv f 0 < pv f b := fun h => pv_lt f h
  have ha0 : a = 0 → pv f a = pv f 0 := fun h => by rw [h]
  have hb0 : b = 0 → pv f b = pv f 0 := fun h => by rw [h]
  rw [hz] at ha hb ha0 hb0
  unfold sgn ssz
  generalize pv f a = x at *
  generalize pv f b = y at *
  cases na <;> cases nb <;> simp only [Bool.false_eq_true, if_false, if_true] <;> repeat' split
  all_goals omega
theorem XVal.cmp {f l W inf a b : Nat} {na nb ng ng' : Bool} {t t' : ByteArray} {P P' : Int} (h : XVal f l inf na a true ng t P) (g : XVal f l inf nb b true ng' t' P') (hi : inf = (W + 1) * 2 ^ f) (hf : f ≤ 52) (hl : l ≤ 1074) (hW : W ≤ 2046) :
    cmpV ng t P ng' t' P' = sgn (ssz na a - ssz nb b) ∧ bothB t t' = true := by
  obtain ⟨-, e1, f1, s1, -⟩ := h.facts hi hf hl hW
  obtain ⟨-, e2, f2, s2, -⟩ := g.facts hi hf hl hW
  obtain ⟨E, hE⟩ : ∃ E : Nat, E = 20000 := ⟨_, rfl⟩
  obtain ⟨p1, v1⟩ := h.value hi hf hl hW E (by omega)
  obtain ⟨p2, v2⟩ := g.value hi hf hl hW E (by omega)
  have hb : bothB t t' = true := by unfold bothB; rw [f1, f2]; rfl
  refine ⟨?_, hb⟩
  rw [cmpV_val ng ng' t t' P P' E hb (by omega) (by omega) p1 p2, ← sgn_pv f, e1, e2]
  unfold sval
  rw [sgn_pos _ _ (2 ^ l) (Nat.two_pow_pos l) rfl]
  symm
  rw [sgn_pos _ _ (10 ^ E) (ten_pos E) rfl]
  clear hE
  have v1' : (val t P E : Int) * ((2 ^ l : Nat) : Int) = (pv f a : Int) * ((10 ^ E : Nat) : Int) := by rw [← Int.natCast_mul, ← Int.natCast_mul, v1]
  have v2' : (val t' P' E : Int) * ((2 ^ l : Nat) : Int) = (pv f b : Int) * ((10 ^ E : Nat) : Int) := by rw [← Int.natCast_mul, ← Int.natCast_mul, v2]
  congr 1
  cases na <;> cases nb <;> simp only [Bool.false_eq_true, if_false, if_true, Int.sub_mul, Int.neg_mul, v1', v2']
/-- the same number in another width has the same digits -/
theorem XVal.other {f l inf sz g m jnf tz : Nat} {neg ng ng' : Bool} {t t' : ByteArray} {P P' : Int} (h : XVal f l inf neg sz true ng t P) (k : XVal g m jnf neg tz true ng' t' P') (he : pv g tz * 2 ^ l = pv f sz * 2 ^ m) (hz : sz = 0 ↔ tz = 0) : ng = ng' ∧ t = t' ∧ P = P' := by
  rcases h with ⟨-, h2, -⟩ | ⟨h1, h2, -, rfl, rfl, rfl⟩ | ⟨h1, h2, -, rfl, N, q, h3, h4, rfl, rfl⟩
  · cases h2
  · rcases k with ⟨-, k2, -⟩ | ⟨k1, k2, -, rfl, rfl, rfl⟩ | ⟨k1, k2, -, rfl, M, r, k3, k4, rfl, rfl⟩
    · cases k2
    · exact ⟨rfl, rfl, rfl⟩
    · exact absurd (hz.1 h1) k2
  · rcases k with ⟨-, k2, -⟩ | ⟨k1, k2, -, rfl, rfl, rfl⟩ | ⟨k1, k2, -, rfl, M, r, k3, k4, rfl, rfl⟩
    · cases k2
    · exact absurd (hz.2 k1) h2
    · obtain ⟨e1, e2⟩ := dg_unique N M q r h3 k3 (by
        apply Nat.eq_of_mul_eq_mul_right (Nat.two_pow_pos l)
        apply Nat.eq_of_mul_eq_mul_right (Nat.two_pow_pos m)
        rw [Nat.mul_right_comm N, h4]
        have e : pv f sz * 10 ^ q * 10 ^ r * 2 ^ m = pv f sz * 2 ^ m * (10 ^ q * 10 ^ r) := by rw [Nat.mul_assoc (pv f sz), Nat.mul_right_comm]
        rw [e, ← he, Nat.mul_right_comm M, Nat.mul_right_comm _ _ (2 ^ m), Nat.mul_right_comm M, k4]
        simp only [Nat.mul_assoc, Nat.mul_comm, Nat.mul_left_comm])
      exact ⟨rfl, e1, e2⟩
end Go.Proofs.YtgckfilmhnapeaaDoor
