/- Contracts of crucibleref01: natural numbers as slices of limbs. -/
import Derived.Test.YtgckfilmhnapeaaGreatDoorRows
import Derived.Test.YtgckfilmhnapeaaGreatDoorNumL
import Derived.WalkKit
import Derived.WalkLawsBesides
import Derived.WalkSpells
import Derived.ProofKit
import Derived.Outline
import Derived.Lib.Hide
import Derived.Deep.QuietTactic
import Derived.BigQuiet
import Derived.StillTailTactics
namespace Go.Proofs.YtgckfilmhnapeaaGreatDoor
open Go.RowKit

theorem Rd.val {w : World} {A : Option Addr} {k : IntKind} {xs : List Nat} (h : Rd w A (vals k xs)) {i : Nat} (hi : i < xs.length) : ∃ b off, A = some ⟨b, off, none⟩ ∧ w.cell? ⟨b, off + i, none⟩ = some (.int k ((xs.getD i 0 : Nat) : Int)) := h.at_ (vals_get k xs i hi)

theorem trm_take_succ (xs : List Nat) (k : Nat) (hk : k < xs.length) (h : xs.getD k 0 = 0) : trm (xs.take (k + 1)) = trm (xs.take k) := by
  rw [take_snoc_nat xs k hk, h, trm_snoc_zero]
theorem trm_take_full (xs : List Nat) (k : Nat) (hk : k < xs.length) (h : xs.getD k 0 ≠ 0) : trm (xs.take (k + 1)) = xs.take (k + 1) := by
  rw [take_snoc_nat xs k hk, trm_snoc_pos _ _ h]

def TrimRel (A : Option Addr) (cap : Nat) (xs : List Nat) (v : Value) : Prop := ∃ m : Nat, m ≤ xs.length ∧ v = .slice A m cap ∧ trm (xs.take m) = trm xs

/-- a fresh slice of numbers is handed back; nothing that was there has changed -/
def SlPost (w : World) (k : IntKind) (xs : List Nat) (e : Ending) (w' : World) : Prop :=
  ∃ A c, e = .returned (.slice A xs.length c) ∧ Rd w' A (vals k xs) ∧ xs.length ≤ c ∧ c ≤ 9223372036854775807 ∧ Below w.heap.size w w'

theorem info_int : (Tryz.prog.info? 3).map (fun i => (i.zero, i.size, i.bytes)) = some (some (.int .i64 0), 1, 8) := by kernel_rfl
theorem info_u32 : (Tryz.prog.info? 44).map (fun i => (i.zero, i.size, i.bytes)) = some (some (.int .u32 0), 1, 4) := by kernel_rfl

/-- the four bytes of a limb -/
def fb (x : Nat) : List Nat := [x % 256, x / 256 % 256, x / 65536 % 256, x / 16777216 % 256]
theorem fb_take_succ (x j : Nat) (h : j < 4) : (fb x).take (j + 1) = (fb x).take j ++ [x / 256 ^ j % 256] := by
  have : j = 0 ∨ j = 1 ∨ j = 2 ∨ j = 3 := by omega
  rcases this with rfl | rfl | rfl | rfl <;> simp [fb]
theorem fb_full (x : Nat) : (fb x).take 4 = fb x := by simp [fb]
def flat (xs : List Nat) : List Nat := xs.flatMap fb
theorem flat_take_succ (xs : List Nat) (k : Nat) (h : k < xs.length) : flat (xs.take (k + 1)) = flat (xs.take k) ++ fb (xs.getD k 0) := by
  rw [take_snoc_nat xs k h]; simp [flat]
theorem flat_len (xs : List Nat) : (flat xs).length = 4 * xs.length := by
  induction xs with
  | nil => rfl
  | cons x l ih => simp only [flat, List.flatMap_cons, List.length_append, List.length_cons] at *; rw [ih]; simp [fb]; omega
theorem flat_val (xs : List Nat) (h : ∀ x ∈ xs, x < 4294967296) : bval 256 (flat xs) = bval 4294967296 xs := by
  induction xs with
  | nil => rfl
  | cons x l ih =>
    have hx := h x (List.mem_cons_self ..)
    have := ih (fun y hy => h y (List.mem_cons_of_mem _ hy))
    simp only [flat, List.flatMap_cons] at this ⊢
    rw [bval_append, this]
    simp only [fb, bval, List.length_cons, List.length_nil]
    generalize bval 4294967296 l = z
    omega
theorem flat_lt (xs : List Nat) : ∀ x ∈ flat xs, x < 256 := by
  intro x hx
  simp only [flat, List.mem_flatMap] at hx
  obtain ⟨y, _, hy⟩ := hx
  simp only [fb, List.mem_cons, List.not_mem_nil, or_false] at hy
  omega

def InRel (w : World) (pre : List Nat) (x0 : Nat) (v x k : Value) (wr : World) : Prop :=
  ∃ j : Nat, j ≤ 4 ∧ k = .int .i64 j ∧ x = .int .i64 ((x0 / 256 ^ j : Nat) : Int) ∧ wr.ownsRow w.heap.size 3 1 v (pre ++ (fb x0).take j).length (vals .i64 (pre ++ (fb x0).take j)) ∧ Below w.heap.size w wr
def OutRel (w : World) (xs : List Nat) (v i : Value) (wr : World) : Prop :=
  ∃ k : Nat, k ≤ xs.length ∧ i = .int .i64 k ∧ wr.ownsRow w.heap.size 3 1 v (flat (xs.take k)).length (vals .i64 (flat (xs.take k))) ∧ Below w.heap.size w wr

theorem pow256_le (j : Nat) (x : Nat) (h : x < 4294967296) : x / 256 ^ j < 4294967296 := Nat.lt_of_le_of_lt (Nat.div_le_self _ _) h
theorem pow256_succ (j x : Nat) : x / 256 ^ j / 256 = x / 256 ^ (j + 1) := by rw [Nat.pow_succ, Nat.div_div_eq_div_mul]

/-- a slice that holds the limbs of a number, none 0 at the end -/
def CanAt (w : World) (A : Option Addr) (N : Nat) : Prop := Rd w A (vals .u32 (dig 4294967296 N))
def ll (N : Nat) : Nat := (dig 4294967296 N).length
theorem ll_le (N k : Nat) (h : N < 4294967296 ^ k) : ll N ≤ k := dig_len_le (by decide) N k h
theorem CanAt.below {w w' : World} {A : Option Addr} {N : Nat} (h : CanAt w A N) (hb : Below w.heap.size w w') : CanAt w' A N := Rd.below h hb
theorem CanAt.drewN {w : World} {A : Option Addr} {N : Nat} (h : CanAt w A N) (n : Nat) : CanAt (w.drewN n) A N := h
/-- a number is handed back -/
def NatPost (w : World) (N : Nat) (e : Ending) (w' : World) : Prop :=
  ∃ A c, e = .returned (.slice A (ll N) c) ∧ CanAt w' A N ∧ ll N ≤ c ∧ c ≤ 9223372036854775807 ∧ Below w.heap.size w w'

theorem getD_lt {b : Nat} {xs : List Nat} (hb : 0 < b) (h : ∀ x ∈ xs, x < b) (i : Nat) : xs.getD i 0 < b := by
  by_cases hi : i < xs.length
  · have := h _ (List.getElem_mem hi); simpa [hi] using this
  · simp [hi]; exact hb

/-- a slice made whole: its numbers are all 0 -/
theorem made_vals (k : IntKind) (n : Nat) : (madeCells #[Value.int k 0] n).toList = vals k (List.replicate n 0) := by
  rw [vals_replicate]
  exact toList_madeCells_one _ _

/-- limbs' loop: what limb j holds when the bytes from place i on have been put in -/
def limbAt (bs : List Nat) (i j : Nat) : Nat := bval 256 ((bs.take (4 * j + 4)).drop (max i (4 * j)))
def lst (bs : List Nat) (m i : Nat) : List Nat := (List.range m).map (limbAt bs i)
theorem lst_len (bs : List Nat) (m i : Nat) : (lst bs m i).length = m := by simp [lst]
theorem lst_get (bs : List Nat) (m i j : Nat) (h : j < m) : (lst bs m i).getD j 0 = limbAt bs i j := by simp [lst, h]
theorem lst_start (bs : List Nat) (m : Nat) : lst bs m bs.length = List.replicate m 0 := by
  apply List.ext_getElem
  · simp [lst]
  · intro j h1 h2
    simp only [lst, List.getElem_map, List.getElem_range, List.getElem_replicate, limbAt]
    rw [List.drop_eq_nil_of_le (by rw [List.length_take]; omega)]
    rfl
theorem limb_other (bs : List Nat) (i j : Nat) (h : j ≠ i / 4) : limbAt bs i j = limbAt bs (i + 1) j := by
  unfold limbAt
  by_cases hj : i / 4 < j
  · rw [Nat.max_eq_right (by omega), Nat.max_eq_right (by omega)]
  · rw [List.drop_eq_nil_of_le (by rw [List.length_take]; omega), List.drop_eq_nil_of_le (by rw [List.length_take]; omega)]
theorem limb_own (bs : List Nat) (i : Nat) (h : i < bs.length) : limbAt bs i (i / 4) = bs.getD i 0 + 256 * limbAt bs (i + 1) (i / 4) := by
  unfold limbAt
  rw [Nat.max_eq_left (by omega), Nat.max_eq_left (by omega)]
  have hl : i < (bs.take (4 * (i / 4) + 4)).length := by rw [List.length_take]; omega
  rw [List.drop_eq_getElem_cons hl]
  simp only [bval, List.getElem_take]
  simp [h]
theorem lst_step (bs : List Nat) (m i : Nat) (h : i < bs.length) : (lst bs m (i + 1)).set (i / 4) (256 * limbAt bs (i + 1) (i / 4) + bs.getD i 0) = lst bs m i := by
  apply List.ext_getElem
  · simp [lst]
  · intro j h1 h2
    simp only [lst, List.length_map, List.length_range] at h2
    rw [List.getElem_set]
    by_cases hj : i / 4 = j
    · subst hj
      rw [if_pos rfl]
      simp only [lst, List.getElem_map, List.getElem_range]
      rw [limb_own bs i h]; omega
    · rw [if_neg hj]
      simp only [lst, List.getElem_map, List.getElem_range]
      exact (limb_other bs i j (fun k => hj k.symm)).symm
theorem limb_lt (bs : List Nat) (hb : ∀ x ∈ bs, x < 256) (i j : Nat) : limbAt bs i j < 256 ^ (4 * j + 4 - max i (4 * j)) := by
  unfold limbAt
  refine Nat.lt_of_lt_of_le (bval_lt 256 _ (fun x hx => hb x (List.mem_of_mem_take (List.mem_of_mem_drop hx)))) ?_
  refine Nat.pow_le_pow_right (by decide) ?_
  rw [List.length_drop, List.length_take]; omega

theorem lst_val (bs : List Nat) (m : Nat) (hm : bs.length ≤ 4 * m) : bval 4294967296 (lst bs m 0) = bval 256 bs := by
  induction m generalizing bs with
  | zero =>
    have : bs = [] := List.eq_nil_of_length_eq_zero (by omega)
    subst this; rfl
  | succ m ih =>
    have e : lst bs (m + 1) 0 = limbAt bs 0 0 :: lst (bs.drop 4) m 0 := by
      unfold lst
      rw [List.range_succ_eq_map, List.map_cons, List.map_map]
      congr 1
      apply List.map_congr_left
      intro j _
      simp only [Function.comp, limbAt]
      rw [Nat.max_eq_right (by omega), Nat.max_eq_right (by omega), List.drop_take, List.drop_take, List.drop_drop, Nat.succ_eq_add_one, show 4 * (j + 1) + 4 - 4 * (j + 1) = 4 * j + 4 - 4 * j from by omega, show 4 * (j + 1) = 4 + 4 * j from by omega]
    rw [e]
    simp only [bval]
    rw [ih (bs.drop 4) (by rw [List.length_drop]; omega)]
    have e2 : limbAt bs 0 0 = bval 256 (bs.take 4) := by unfold limbAt; simp
    rw [e2]
    conv => rhs; rw [← List.take_append_drop 4 bs]
    rw [bval_append]
    by_cases h4 : 4 ≤ bs.length
    · rw [List.length_take, Nat.min_eq_left h4]
    · have : bs.drop 4 = [] := List.drop_eq_nil_of_le (by omega)
      rw [this]; simp [bval]
theorem lst_lt (bs : List Nat) (hb : ∀ x ∈ bs, x < 256) (m i : Nat) : ∀ x ∈ lst bs m i, x < 4294967296 := by
  intro x hx
  simp only [lst, List.mem_map] at hx
  obtain ⟨j, _, rfl⟩ := hx
  refine Nat.lt_of_lt_of_le (limb_lt bs hb i j) ?_
  have : 256 ^ (4 * j + 4 - max i (4 * j)) ≤ 256 ^ 4 := Nat.pow_le_pow_right (by decide) (by omega)
  exact this
/-- the limbs of a trimmed list of bytes have no nought at the end -/
theorem lst_dig (bs : List Nat) (hb : ∀ x ∈ bs, x < 256) (ht : bs = [] ∨ bs.getD (bs.length - 1) 0 ≠ 0) : lst bs ((bs.length + 3) / 4) 0 = dig 4294967296 (bval 256 bs) := by
  have hv := lst_val bs ((bs.length + 3) / 4) (by omega)
  rw [← hv]
  refine (dig_unique (by decide) _ (lst_lt bs hb _ 0) ?_).symm
  rcases ht with rfl | ht
  · left; rfl
  · right
    have hl : bs.length ≠ 0 := by
      intro k
      rw [List.eq_nil_of_length_eq_zero k] at ht
      simp at ht
    rw [lst_len, lst_get _ _ _ _ (by omega)]
    unfold limbAt
    intro k
    have hmem : bs.getD (bs.length - 1) 0 ∈ (bs.take (4 * ((bs.length + 3) / 4 - 1) + 4)).drop (max 0 (4 * ((bs.length + 3) / 4 - 1))) := by
      rw [List.mem_iff_getElem]
      refine ⟨bs.length - 1 - 4 * ((bs.length + 3) / 4 - 1), by rw [List.length_drop, List.length_take]; omega, ?_⟩
      rw [List.getElem_drop, List.getElem_take]
      simp only [List.getD_eq_getElem?_getD, List.getElem?_eq_getElem (show bs.length - 1 < bs.length by omega), Option.getD_some]
      congr 1; omega
    have hz : ∀ (l : List Nat), bval 256 l = 0 → ∀ x ∈ l, x = 0 := by
      intro l
      induction l with
      | nil => intro _ x hx; simp at hx
      | cons y l ih =>
        intro h x hx
        simp only [bval] at h
        rcases List.mem_cons.1 hx with rfl | hx
        · omega
        · exact ih (by omega) x hx
    exact ht (hz _ k _ hmem)

def LimbRel (w : World) (g m : Nat) (bs : List Nat) (i : Value) (wr : World) : Prop :=
  ∃ k : Nat, k ≤ bs.length ∧ ((k = 0 ∧ i = .int .i64 (-1)) ∨ (∃ j : Nat, k = j + 1 ∧ i = .int .i64 j)) ∧ wr.ownsRow w.heap.size 44 1 (.slice (some ⟨g, 0, none⟩) m m) m (vals .u32 (lst bs m k)) ∧ Below w.heap.size w wr

end Go.Proofs.YtgckfilmhnapeaaGreatDoor

namespace Go.Proofs.YtgckfilmhnapeaaGreatDoor
open Go.RowKit

def FromRel (w : World) (n : Nat) (t v : Value) (wr : World) : Prop :=
  ∃ k x : Nat, x = n / 256 ^ k ∧ k ≤ 8 ∧ t = .int .u64 x ∧ wr.ownsRow w.heap.size 3 1 v ((dig 256 n).take k).length (vals .i64 ((dig 256 n).take k)) ∧ Below w.heap.size w wr ∧ (x ≠ 0 → k < (dig 256 n).length) ∧ ((dig 256 n).take k).length = min k (dig 256 n).length

theorem dig_drop (b n k : Nat) (hb : 2 ≤ b) : (dig b n).drop k = dig b (n / b ^ k) := by
  induction k generalizing n with
  | zero => simp
  | succ k ih =>
    by_cases hn : n = 0
    · subst hn; rw [dig_zero, Nat.zero_div, dig_zero]; rfl
    · rw [dig_pos hb hn, List.drop_succ_cons, ih, Nat.div_div_eq_div_mul, Nat.pow_succ, Nat.mul_comm b]
theorem dig_get (b n k : Nat) (hb : 2 ≤ b) (hx : n / b ^ k ≠ 0) : k < (dig b n).length ∧ (dig b n).getD k 0 = n / b ^ k % b := by
  have h := dig_drop b n k hb
  rw [dig_pos hb hx] at h
  have hl : k < (dig b n).length := by
    rcases Nat.lt_or_ge k (dig b n).length with g | g
    · exact g
    · rw [List.drop_eq_nil_of_le g] at h; cases h
  refine ⟨hl, ?_⟩
  rw [List.drop_eq_getElem_cons hl] at h
  injection h with h1 _
  simpa [hl] using h1
theorem dig_end (b n k : Nat) (hb : 2 ≤ b) (hx : n / b ^ k = 0) : (dig b n).length ≤ k := by
  have h := dig_drop b n k hb
  rw [hx, dig_zero] at h
  exact List.drop_eq_nil_iff.1 h

def FRel (w : World) (n : Nat) (t v : Value) (wr : World) : Prop :=
  ∃ k : Nat, k ≤ (dig 256 n).length ∧ t = .int .u64 ((n / 256 ^ k : Nat) : Int) ∧ wr.ownsRow w.heap.size 3 1 v ((dig 256 n).take k).length (vals .i64 ((dig 256 n).take k)) ∧ Below w.heap.size w wr

/-- Uint's loop: from the highest byte on -/
def UintRel (N : Nat) (x i : Value) : Prop :=
  ∃ k : Nat, k ≤ (dig 256 N).length ∧ ((k = 0 ∧ i = .int .i64 (-1)) ∨ (∃ j : Nat, k = j + 1 ∧ i = .int .i64 j)) ∧ x = .int .u64 ((N / 256 ^ k : Nat) : Int)

theorem pow_div_step (N j : Nat) : N / 256 ^ j = N / 256 ^ (j + 1) * 256 + N / 256 ^ j % 256 := by
  have := Nat.div_add_mod (N / 256 ^ j) 256
  rw [Nat.pow_succ, ← Nat.div_div_eq_div_mul]
  omega

end Go.Proofs.YtgckfilmhnapeaaGreatDoor

namespace Go.Proofs.YtgckfilmhnapeaaGreatDoor
open Go.RowKit

def LenRel (t L : Nat) (x n : Value) : Prop := ∃ j : Nat, j ≤ blen t ∧ x = .int .i64 ((t / 2 ^ j : Nat) : Int) ∧ n = .int .i64 ((8 * (L - 1) + j : Nat) : Int)

theorem ret_int' {k : IntKind} {a b : Int} (h : a = b) : Ending.returned (.int k a) = .returned (.int k b) := by rw [h]
theorem half_zero (t j : Nat) : t / 2 ^ j = 0 ↔ blen t ≤ j := by
  rw [blen_iff, Nat.div_eq_zero_iff]
  have := Nat.two_pow_pos j
  omega

def CmpRel (w2 : World) (N M : Nat) (i : Value) (wr : World) : Prop :=
  ∃ k q : Nat, wr = w2.drewN q ∧ k ≤ (dig 256 N).length ∧ ((k = 0 ∧ i = .int .i64 (-1)) ∨ (∃ j : Nat, k = j + 1 ∧ i = .int .i64 j)) ∧ N / 256 ^ k = M / 256 ^ k

/-- a loop's own row of digits: so many of them -/
def DigRel (w : World) (S : Nat) (C : Nat → Nat) (bound : Nat) (v c i : Value) (wr : World) : Prop :=
  ∃ k : Nat, k ≤ bound ∧ i = .int .i64 k ∧ c = .int .i64 ((C k : Nat) : Int) ∧ wr.ownsRow w.heap.size 3 1 v k (vals .i64 (digs 256 S k)) ∧ Below w.heap.size w wr

theorem b4 (X : Nat) : (dig 256 X).length ≤ 4 * ll X := dig_len_le (by decide) X _ (by rw [show 256 ^ (4 * ll X) = 4294967296 ^ ll X from by rw [Nat.pow_mul]]; exact lt_dig_len (by decide) X)

end Go.Proofs.YtgckfilmhnapeaaGreatDoor

namespace Go.Proofs.YtgckfilmhnapeaaGreatDoor
open Go.RowKit

/-- a number and true are handed back -/
def NatPost2 (w : World) (N : Nat) (e : Ending) (w' : World) : Prop :=
  ∃ A c, e = .returned (.tuple #[.slice A (ll N) c, .bool true]) ∧ CanAt w' A N ∧ ll N ≤ c ∧ c ≤ 9223372036854775807 ∧ Below w.heap.size w w'
/-- there is none -/
def NonePost (w : World) (e : Ending) (w' : World) : Prop := e = .returned (.tuple #[.slice none 0 0, .bool false]) ∧ Below w.heap.size w w'

theorem blen_dig (N : Nat) : blen N ≤ 8 * (dig 256 N).length := by
  have h := lt_dig_len (b := 256) (by decide) N
  generalize (dig 256 N).length = L at *
  rw [blen_iff, Nat.pow_mul]
  exact h

theorem zeros_can (w : World) : CanAt w none 0 := by unfold CanAt; rw [dig_zero]; exact Rd.nil
theorem ll_zero : ll 0 = 0 := by unfold ll; rw [dig_zero]; rfl

def ShlRel (w : World) (z : Nat) (S : Nat) (C : Nat → Nat) (bound : Nat) (v c i : Value) (wr : World) : Prop :=
  ∃ k : Nat, k ≤ bound ∧ i = .int .i64 k ∧ c = .int .i64 ((C k : Nat) : Int) ∧ wr.ownsRow w.heap.size 3 1 v (z + k) (vals .i64 (List.replicate z 0 ++ digs 256 S k)) ∧ Below w.heap.size w wr

theorem shl_val (N n L : Nat) (hL : N < 256 ^ L) : bval 256 (List.replicate (n / 8) 0 ++ digs 256 (N * 2 ^ (n % 8)) (L + 1)) = N * 2 ^ n := by
  rw [bval_append, bval_replicate, List.length_replicate, Nat.zero_add, digs_all]
  · have e : 256 ^ (n / 8) = 2 ^ (8 * (n / 8)) := by rw [Nat.pow_mul]
    rw [e, Nat.mul_left_comm, ← Nat.pow_add]
    congr 2; omega
  · have h1 : 2 ^ (n % 8) ≤ 2 ^ 8 := Nat.pow_le_pow_right (by decide) (by omega)
    have h2 : N * 2 ^ (n % 8) ≤ N * 256 := Nat.mul_le_mul_left _ h1
    rw [Nat.pow_succ]
    omega

end Go.Proofs.YtgckfilmhnapeaaGreatDoor
