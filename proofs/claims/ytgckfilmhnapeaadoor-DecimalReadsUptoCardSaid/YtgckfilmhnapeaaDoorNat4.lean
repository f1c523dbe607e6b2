/- Contracts of crucibleref01: natural numbers as slices of limbs. -/
import Derived.Test.YtgckfilmhnapeaaDoorRows
import Derived.Test.YtgckfilmhnapeaaDoorNumL
import Derived.WalkKit
import Derived.WalkLawsBesides
import Derived.WalkSpells
import Derived.ProofKit
import Derived.Outline
import Derived.Lib.Hide
import Derived.Deep.QuietTactic
import Derived.BigQuiet
import Derived.StillTailTactics
namespace Go.Proofs.YtgckfilmhnapeaaDoor
open Go.RowKit

theorem Rd.val {w : World} {A : Option Addr} {k : IntKind} {xs : List Nat} (h : Rd w A (vals k xs)) {i : Nat} (hi : i < xs.length) : ∃ b off, A = some ⟨b, off, none⟩ ∧ w.cell? ⟨b, off + i, none⟩ = some (.int k ((xs.getD i 0 : Nat) : Int)) := h.at_ (vals_get k xs i hi)

theorem trm_take_succ (xs : List Nat) (k : Nat) (hk : k < xs.length) (h : xs.getD k 0 = 0) : trm (xs.take (k + 1)) = trm (xs.take k) := by
  rw [take_snoc_nat xs k hk, h, trm_snoc_zero]
theorem trm_take_full (xs : List Nat) (k : Nat) (hk : k < xs.length) (h : xs.getD k 0 ≠ 0) : trm (xs.take (k + 1)) = xs.take (k + 1) := by
  rw [take_snoc_nat xs k hk, trm_snoc_pos _ _ h]

def TrimRel (A : Option Addr) (cap : Nat) (xs : List Nat) (v : Value) : Prop := ∃ m : Nat, m ≤ xs.length ∧ v = .slice A m cap ∧ trm (xs.take m) = trm xs

set_option maxHeartbeats 400000 in
theorem trim_any (A : Option Addr) (n cap : Nat) (xs : List Nat) (w : World) (hn : xs.length = n) (hr : Rd w A (vals .i64 xs)) (hc : n ≤ cap) (hm : cap ≤ 9223372036854775807) :
    Calls Tryd.prog 118 #[.slice A n cap] w fun e w' => e = .returned (.slice A (trm xs).length cap) ∧ w = w' := by
  subst hn
  have HR := Lib.hid hr
  clear hr
  go_enter Tryd.func118, Tryd.ntmps118
  go_wp2
  go_loop [0] (fun v => TrimRel A cap xs v) (fun v => match v with | .slice _ m _ => m | _ => 0)
  case atStart => exact ⟨xs.length, Nat.le_refl _, rfl, by rw [List.take_length]⟩
  case round =>
    obtain ⟨m, hk, rfl, ht⟩ := hrel
    have HT := Lib.hid ht
    clear ht
    by_cases h0 : m = 0
    · subst h0
      go_wp2
      go_ret
      refine ⟨?_, rfl⟩
      have : (trm xs).length = 0 := by rw [← HT.out]; rfl
      rw [this]; rfl
    · obtain ⟨k, rfl⟩ : ∃ k, m = k + 1 := ⟨m - 1, by omega⟩
      obtain ⟨b, off, rfl, hcell⟩ := HR.out.val (show k < xs.length by omega)
      by_cases hz : xs.getD k 0 = 0
      · rw [hz] at hcell
        go_wp2
        exact ⟨⟨k, by omega, rfl, by rw [← HT.out, trm_take_succ xs k (by omega) hz]⟩, Nat.lt_succ_self k⟩
      · have hz' : (((xs.getD k 0 : Nat) : Int) == 0) = false := by simpa using hz
        have HZ := Lib.hid hz
        generalize hx : xs.getD k 0 = x at *
        clear hz
        go_wp2
        go_ret
        refine ⟨?_, rfl⟩
        have : (trm xs).length = k + 1 := by
          rw [← HT.out, trm_take_full xs k (by omega) (by rw [hx]; exact HZ.out), List.length_take]; omega
        rw [this]; rfl

/-- a fresh slice of numbers is handed back; nothing that was there has changed -/
def SlPost (w : World) (k : IntKind) (xs : List Nat) (e : Ending) (w' : World) : Prop :=
  ∃ A c, e = .returned (.slice A xs.length c) ∧ Rd w' A (vals k xs) ∧ xs.length ≤ c ∧ c ≤ 9223372036854775807 ∧ Below w.heap.size w w'

theorem info_int : (Tryd.prog.info? 3).map (fun i => (i.zero, i.size, i.bytes)) = some (some (.int .i64 0), 1, 8) := by kernel_rfl
theorem info_u32 : (Tryd.prog.info? 49).map (fun i => (i.zero, i.size, i.bytes)) = some (some (.int .u32 0), 1, 4) := by kernel_rfl

/-- the four bytes of a limb -/
def fb (x : Nat) : List Nat := [x % 256, x / 256 % 256, x / 65536 % 256, x / 16777216 % 256]
theorem fb_take_succ (x j : Nat) (h : j < 4) : (fb x).take (j + 1) = (fb x).take j ++ [x / 256 ^ j % 256] := by
  have : j = 0 ∨ j = 1 ∨ j = 2 ∨ j = 3 := by omega
  rcases this with rfl | rfl | rfl | rfl <;> simp [fb]
theorem fb_full (x : Nat) : (fb x).take 4 = fb x := by simp [fb]
def flat (xs : List Nat) : List Nat := xs.flatMap fb
theorem flat_take_succ (xs : List Nat) (k : Nat) (h : k < xs.length) : flat (xs.take (k + 1)) = flat (xs.take k) ++ fb (xs.getD k 0) := by
  rw [take_snoc_nat xs k h]; simp [flat]
theorem flat_len (xs : List Nat) : (flat xs).length = 4 * xs.length := by
  induction xs with
  | nil => rfl
  | cons x l ih => simp only [flat, List.flatMap_cons, List.length_append, List.length_cons] at *; rw [ih]; simp [fb]; omega
theorem flat_val (xs : List Nat) (h : ∀ x ∈ xs, x < 4294967296) : bval 256 (flat xs) = bval 4294967296 xs := by
  induction xs with
  | nil => rfl
  | cons x l ih =>
    have hx := h x (List.mem_cons_self ..)
    have := ih (fun y hy => h y (List.mem_cons_of_mem _ hy))
    simp only [flat, List.flatMap_cons] at this ⊢
    rw [bval_append, this]
    simp only [fb, bval, List.length_cons, List.length_nil]
    generalize bval 4294967296 l = z
    omega
theorem flat_lt (xs : List Nat) : ∀ x ∈ flat xs, x < 256 := by
  intro x hx
  simp only [flat, List.mem_flatMap] at hx
  obtain ⟨y, _, hy⟩ := hx
  simp only [fb, List.mem_cons, List.not_mem_nil, or_false] at hy
  omega

def InRel (w : World) (pre : List Nat) (x0 : Nat) (v x k : Value) (wr : World) : Prop :=
  ∃ j : Nat, j ≤ 4 ∧ k = .int .i64 j ∧ x = .int .i64 ((x0 / 256 ^ j : Nat) : Int) ∧ wr.ownsRow w.heap.size 3 1 v (pre ++ (fb x0).take j).length (vals .i64 (pre ++ (fb x0).take j)) ∧ Below w.heap.size w wr
def OutRel (w : World) (xs : List Nat) (v i : Value) (wr : World) : Prop :=
  ∃ k : Nat, k ≤ xs.length ∧ i = .int .i64 k ∧ wr.ownsRow w.heap.size 3 1 v (flat (xs.take k)).length (vals .i64 (flat (xs.take k))) ∧ Below w.heap.size w wr

theorem pow256_le (j : Nat) (x : Nat) (h : x < 4294967296) : x / 256 ^ j < 4294967296 := Nat.lt_of_le_of_lt (Nat.div_le_self _ _) h
theorem pow256_succ (j x : Nat) : x / 256 ^ j / 256 = x / 256 ^ (j + 1) := by rw [Nat.pow_succ, Nat.div_div_eq_div_mul]

set_option maxHeartbeats 1000000 in
set_option maxRecDepth 100000 in
theorem bytes_any (A : Option Addr) (n cap : Nat) (xs : List Nat) (w : World) (hn : xs.length = n) (hr : Rd w A (vals .u32 xs)) (hx : ∀ x ∈ xs, x < 4294967296) (hm : n ≤ 1048576) :
    Calls Tryd.prog 82 #[.slice A n cap] w (SlPost w .i64 (dig 256 (bval 4294967296 xs))) := by
  subst hn
  have HR := Lib.hid hr
  have HX := Lib.hid hx
  obtain ⟨i0, hi, hz0, hz1, hz2⟩ := info_parts info_int
  clear hr hx
  go_enter Tryd.func82, Tryd.ntmps82
  go_wp2_with (at_make; refine wpList_make_own _ rfl _ _ 69 rfl w.heap.size 3 i0 (.int .i64 0) 1 Tryd.underlying69 hi hz0 hz1 _ _ _ (4 * xs.length) rfl rfl ?c0 ?c1 ?c2 ?c3 ?_)
  case c0 => omega
  case c1 => rw [hz2]; omega
  case c2 => unfold maxLen; omega
  case c3 => exact Nat.le_refl _
  intro w1 hown1 hg1
  have HO1 := Lib.hid hown1
  have HB1 : Hid (Below w.heap.size w w1) := Lib.hid ((Below.refl _ _).grown hg1 (Nat.le_refl _) (fun _ h => by cases h))
  clear hown1 hg1
  go_wp2_with fail
  go_loopw [3, 4] (fun v i wr => OutRel w xs v i wr) (fun _ i _ => xs.length - (intOf i).toNat)
  case atStart => exact ⟨0, Nat.zero_le _, rfl, HO1.out, HB1.out⟩
  case round =>
    obtain ⟨k, hk, rfl, hown, hbel⟩ := hrel
    have HO := Lib.hid hown
    have HB := Lib.hid hbel
    clear hown hbel
    by_cases hlt : k < xs.length
    · obtain ⟨b, off, rfl, hcell⟩ := (HR.out.below HB.out).val hlt
      have hxb : xs.getD k 0 < 4294967296 := by
        have := HX.out (xs[k]) (List.getElem_mem hlt)
        simpa [hlt] using this
      have HF := Lib.hid (flat_take_succ xs k hlt)
      generalize xs.getD k 0 = x at *
      generalize hpre : flat (xs.take k) = pre at *
      have hpl : pre.length ≤ 4 * k := by
        rw [← hpre, flat_len, List.length_take]; omega
      clear hpre
      go_wp2_with fail
      obtain ⟨wo, rfl⟩ : ∃ wo : World, wo = wr := ⟨_, rfl⟩
      go_loopw [3, 5, 6] (fun v x' j wr => InRel w pre x v x' j wr) (fun _ _ j _ => 4 - (intOf j).toNat)
      case atStart => exact ⟨0, by omega, rfl, by simp, by simpa using HO.out, HB.out⟩
      case round =>
        obtain ⟨j, hj, rfl, rfl, hown, hbel⟩ := hrel
        have HOI := Lib.hid hown
        have HBI := Lib.hid hbel
        clear hown hbel
        have hxj := pow256_le j x hxb
        by_cases hj4 : j < 4
        · have HF2 := Lib.hid (fb_take_succ x j hj4)
          have HF3 := Lib.hid (pow256_succ j x)
          have hfl : ((fb x).take j).length ≤ 4 := by rw [List.length_take]; simp [fb]; omega
          generalize (fb x).take j = fj at *
          generalize x / 256 ^ j = y at *
          go_wp2_with (at_builtin; refine wpList_append_own _ rfl _ _ 69 rfl w.heap.size 3 i0 (.int .i64 0) 1 8 Tryd.underlying69 hi hz0 hz1 hz2 rfl (by decide) _ _ _ rfl (HOI.out.alloc _) ⟨wr.heap.size, 0, none⟩ 1 1 [.int .i64 ((y : Int) % 256)] rfl rfl ?c1 ?c2 ?c3 ?c4 ?c5 ?_)
          case c1 => exact (cell_one_new _ _ _)
          case c2 => exact one_oneCell rfl
          case c3 => unfold maxLen; rw [List.length_append]; omega
          case c4 => rw [List.length_append]; omega
          case c5 => have := HBI.out.size; simp; omega
          intro v2 w2 hown2 hg2 _
          have HO2 := Lib.hid hown2
          have HB2 := Lib.hid ((HBI.out.alloc HBI.out.size _).grown hg2 (by have := HBI.out.size; simp; omega) (fun q hq => (HOI.out.lt q hq).1))
          clear hown2 hg2
          go_wp2_with fail
          go_roundw
          case rel =>
            refine ⟨j + 1, by omega, by go_num, by rw [← HF3.out]; go_num, ?_, HB2.out⟩
            rw [HF2.out, ← List.append_assoc, vals_append, vals_one, List.length_append, List.length_append, show ((y % 256 : Nat) : Int) = (y : Int) % 256 from by omega]
            exact HO2.out
          case measure => simp [intOf]; omega
        · obtain rfl : j = 4 := by omega
          go_wp2_with fail
          go_roundw
          case rel => exact ⟨k + 1, by omega, by go_num, by rw [HF.out, ← fb_full x]; exact HOI.out, HBI.out⟩
          case measure => simp [intOf]; omega
    · obtain rfl : k = xs.length := by omega
      rw [List.take_length] at HO
      obtain ⟨A', c, rfl, hnc, hcm, hcl, hrd⟩ := own_rd HO.out
      have RD := Lib.hid hrd
      clear hrd
      unfold maxLen at hcm
      go_wp2_with fail
      refine (trim_any A' _ c (flat xs) wr rfl RD.out hnc (by omega)).mono ?_
      rintro e w' ⟨rfl, rfl⟩
      go_wp2_with fail
      go_ret
      have e1 : trm (flat xs) = dig 256 (bval 4294967296 xs) := by rw [trm_dig (by decide) _ (flat_lt xs), flat_val xs HX.out]
      refine ⟨A', c, by rw [← e1] <;> rfl, ?_, ?_, by omega, HB.out⟩
      · have := RD.out.take (trm (flat xs)).length
        rw [vals_take, trm_take, e1] at this
        exact this
      · rw [← e1]; have := trm_len (flat xs); omega

/-- a slice that holds the limbs of a number, none 0 at the end -/
def CanAt (w : World) (A : Option Addr) (N : Nat) : Prop := Rd w A (vals .u32 (dig 4294967296 N))
def ll (N : Nat) : Nat := (dig 4294967296 N).length
theorem ll_le (N k : Nat) (h : N < 4294967296 ^ k) : ll N ≤ k := dig_len_le (by decide) N k h
theorem CanAt.below {w w' : World} {A : Option Addr} {N : Nat} (h : CanAt w A N) (hb : Below w.heap.size w w') : CanAt w' A N := Rd.below h hb
theorem CanAt.drewN {w : World} {A : Option Addr} {N : Nat} (h : CanAt w A N) (n : Nat) : CanAt (w.drewN n) A N := h
/-- a number is handed back -/
def NatPost (w : World) (N : Nat) (e : Ending) (w' : World) : Prop :=
  ∃ A c, e = .returned (.slice A (ll N) c) ∧ CanAt w' A N ∧ ll N ≤ c ∧ c ≤ 9223372036854775807 ∧ Below w.heap.size w w'

theorem getD_lt {b : Nat} {xs : List Nat} (hb : 0 < b) (h : ∀ x ∈ xs, x < b) (i : Nat) : xs.getD i 0 < b := by
  by_cases hi : i < xs.length
  · have := h _ (List.getElem_mem hi); simpa [hi] using this
  · simp [hi]; exact hb

/-- a slice made whole: its numbers are all 0 -/
theorem made_vals (k : IntKind) (n : Nat) : (madeCells #[Value.int k 0] n).toList = vals k (List.replicate n 0) := by
  rw [vals_replicate]
  exact toList_madeCells_one _ _

/-- limbs' loop: what limb j holds when the bytes from place i on have been put in -/
def limbAt (bs : List Nat) (i j : Nat) : Nat := bval 256 ((bs.take (4 * j + 4)).drop (max i (4 * j)))
def lst (bs : List Nat) (m i : Nat) : List Nat := (List.range m).map (limbAt bs i)
theorem lst_len (bs : List Nat) (m i : Nat) : (lst bs m i).length = m := by simp [lst]
theorem lst_get (bs : List Nat) (m i j : Nat) (h : j < m) : (lst bs m i).getD j 0 = limbAt bs i j := by simp [lst, h]
theorem lst_start (bs : List Nat) (m : Nat) : lst bs m bs.length = List.replicate m 0 := by
  apply List.ext_getElem
  · simp [lst]
  · intro j h1 h2
    simp only [lst, List.getElem_map, List.getElem_range, List.getElem_replicate, limbAt]
    rw [List.drop_eq_nil_of_le (by rw [List.length_take]; omega)]
    rfl
theorem limb_other (bs : List Nat) (i j : Nat) (h : j ≠ i / 4) : limbAt bs i j = limbAt bs (i + 1) j := by
  unfold limbAt
  by_cases hj : i / 4 < j
  · rw [Nat.max_eq_right (by omega), Nat.max_eq_right (by omega)]
  · rw [List.drop_eq_nil_of_le (by rw [List.length_take]; omega), List.drop_eq_nil_of_le (by rw [List.length_take]; omega)]
theorem limb_own (bs : List Nat) (i : Nat) (h : i < bs.length) : limbAt bs i (i / 4) = bs.getD i 0 + 256 * limbAt bs (i + 1) (i / 4) := by
  unfold limbAt
  rw [Nat.max_eq_left (by omega), Nat.max_eq_left (by omega)]
  have hl : i < (bs.take (4 * (i / 4) + 4)).length := by rw [List.length_take]; omega
  rw [List.drop_eq_getElem_cons hl]
  simp only [bval, List.getElem_take]
  simp [h]
theorem lst_step (bs : List Nat) (m i : Nat) (h : i < bs.length) : (lst bs m (i + 1)).set (i / 4) (256 * limbAt bs (i + 1) (i / 4) + bs.getD i 0) = lst bs m i := by
  apply List.ext_getElem
  · simp [lst]
  · intro j h1 h2
    simp only [lst, List.length_map, List.length_range] at h2
    rw [List.getElem_set]
    by_cases hj : i / 4 = j
    · subst hj
      rw [if_pos rfl]
      simp only [lst, List.getElem_map, List.getElem_range]
      rw [limb_own bs i h]; omega
    · rw [if_neg hj]
      simp only [lst, List.getElem_map, List.getElem_range]
      exact (limb_other bs i j (fun k => hj k.symm)).symm
theorem limb_lt (bs : List Nat) (hb : ∀ x ∈ bs, x < 256) (i j : Nat) : limbAt bs i j < 256 ^ (4 * j + 4 - max i (4 * j)) := by
  unfold limbAt
  refine Nat.lt_of_lt_of_le (bval_lt 256 _ (fun x hx => hb x (List.mem_of_mem_take (List.mem_of_mem_drop hx)))) ?_
  refine Nat.pow_le_pow_right (by decide) ?_
  rw [List.length_drop, List.length_take]; omega

theorem lst_val (bs : List Nat) (m : Nat) (hm : bs.length ≤ 4 * m) : bval 4294967296 (lst bs m 0) = bval 256 bs := by
  induction m generalizing bs with
  | zero =>
    have : bs = [] := List.eq_nil_of_length_eq_zero (by omega)
    subst this; rfl
  | succ m ih =>
    have e : lst bs (m + 1) 0 = limbAt bs 0 0 :: lst (bs.drop 4) m 0 := by
      unfold lst
      rw [List.range_succ_eq_map, List.map_cons, List.map_map]
      congr 1
      apply List.map_congr_left
      intro j _
      simp only [Function.comp, limbAt]
      rw [Nat.max_eq_right (by omega), Nat.max_eq_right (by omega), List.drop_take, List.drop_take, List.drop_drop, Nat.succ_eq_add_one, show 4 * (j + 1) + 4 - 4 * (j + 1) = 4 * j + 4 - 4 * j from by omega, show 4 * (j + 1) = 4 + 4 * j from by omega]
    rw [e]
    simp only [bval]
    rw [ih (bs.drop 4) (by rw [List.length_drop]; omega)]
    have e2 : limbAt bs 0 0 = bval 256 (bs.take 4) := by unfold limbAt; simp
    rw [e2]
    conv => rhs; rw [← List.take_append_drop 4 bs]
    rw [bval_append]
    by_cases h4 : 4 ≤ bs.length
    · rw [List.length_take, Nat.min_eq_left h4]
    · have : bs.drop 4 = [] := List.drop_eq_nil_of_le (by omega)
      rw [this]; simp [bval]
theorem lst_lt (bs : List Nat) (hb : ∀ x ∈ bs, x < 256) (m i : Nat) : ∀ x ∈ lst bs m i, x < 4294967296 := by
  intro x hx
  simp only [lst, List.mem_map] at hx
  obtain ⟨j, _, rfl⟩ := hx
  refine Nat.lt_of_lt_of_le (limb_lt bs hb i j) ?_
  have : 256 ^ (4 * j + 4 - max i (4 * j)) ≤ 256 ^ 4 := Nat.pow_le_pow_right (by decide) (by omega)
  exact this
/-- the limbs of a trimmed list of bytes have no nought at the end -/
theorem lst_dig (bs : List Nat) (hb : ∀ x ∈ bs, x < 256) (ht : bs = [] ∨ bs.getD (bs.length - 1) 0 ≠ 0) : lst bs ((bs.length + 3) / 4) 0 = dig 4294967296 (bval 256 bs) := by
  have hv := lst_val bs ((bs.length + 3) / 4) (by omega)
  rw [← hv]
  refine (dig_unique (by decide) _ (lst_lt bs hb _ 0) ?_).symm
  rcases ht with rfl | ht
  · left; rfl
  · right
    have hl : bs.length ≠ 0 := by
      intro k
      rw [List.eq_nil_of_length_eq_zero k] at ht
      simp at ht
    rw [lst_len, lst_get _ _ _ _ (by omega)]
    unfold limbAt
    intro k
    have hmem : bs.getD (bs.length - 1) 0 ∈ (bs.take (4 * ((bs.length + 3) / 4 - 1) + 4)).drop (max 0 (4 * ((bs.length + 3) / 4 - 1))) := by
      rw [List.mem_iff_getElem]
      refine ⟨bs.length - 1 - 4 * ((bs.length + 3) / 4 - 1), by rw [List.length_drop, List.length_take]; omega, ?_⟩
      rw [List.getElem_drop, List.getElem_take]
      simp only [List.getD_eq_getElem?_getD, List.getElem?_eq_getElem (show bs.length - 1 < bs.length by omega), Option.getD_some]
      congr 1; omega
    have hz : ∀ (l : List Nat), bval 256 l = 0 → ∀ x ∈ l, x = 0 := by
      intro l
      induction l with
      | nil => intro _ x hx; simp at hx
      | cons y l ih =>
        intro h x hx
        simp only [bval] at h
        rcases List.mem_cons.1 hx with rfl | hx
        · omega
        · exact ih (by omega) x hx
    exact ht (hz _ k _ hmem)

def LimbRel (w : World) (g m : Nat) (bs : List Nat) (i : Value) (wr : World) : Prop :=
  ∃ k : Nat, k ≤ bs.length ∧ ((k = 0 ∧ i = .int .i64 (-1)) ∨ (∃ j : Nat, k = j + 1 ∧ i = .int .i64 j)) ∧ wr.ownsRow w.heap.size 49 1 (.slice (some ⟨g, 0, none⟩) m m) m (vals .u32 (lst bs m k)) ∧ Below w.heap.size w wr

set_option maxRecDepth 100000 in
set_option maxHeartbeats 1000000 in
theorem limbs_any (A : Option Addr) (n cap : Nat) (xs : List Nat) (w : World) (hn : xs.length = n) (hr : Rd w A (vals .i64 xs)) (hx : ∀ x ∈ xs, x < 256) (hc : n ≤ cap) (hcm : cap ≤ 9223372036854775807) (hm : n ≤ 4194304) :
    Calls Tryd.prog 83 #[.slice A n cap] w (NatPost w (bval 256 xs)) := by
  subst hn
  have HR := Lib.hid hr
  have HX := Lib.hid hx
  obtain ⟨i0, hi, hz0, hz1, hz2⟩ := info_parts info_u32
  clear hr hx
  go_enter Tryd.func83, Tryd.ntmps83
  go_wp2_with fail
  refine (trim_any A _ cap xs w rfl HR.out hc hcm).mono ?_
  rintro e w' ⟨rfl, rfl⟩
  have hbs : ∃ bs, bs = trm xs := ⟨_, rfl⟩
  obtain ⟨bs, hbs⟩ := hbs
  rw [← hbs]
  have HRB : Hid (Rd w A (vals .i64 bs)) := Lib.hid (by
    have := HR.out.take (trm xs).length
    rw [vals_take, trm_take, ← hbs] at this; exact this)
  have HXB : Hid (∀ x ∈ bs, x < 256) := Lib.hid (by rw [hbs]; exact fun x hx => HX.out x (trm_mem xs x hx))
  have hbl : bs.length ≤ xs.length := by rw [hbs]; exact trm_len xs
  have HBS := Lib.hid hbs
  clear hbs
  go_wp2_with (at_make; refine wpList_make_full _ rfl _ _ 47 rfl w.heap.size 49 i0 (.int .u32 0) 1 Tryd.underlying47 hi hz0 hz1 _ _ _ _ ((bs.length + 3) / 4) rfl rfl ?c0 ?c1 ?c2 ?c3 ?c4 ?_)
  case c0 => omega
  case c1 => omega
  case c2 => rw [hz2]; omega
  case c3 => unfold maxLen; omega
  case c4 => exact Nat.le_refl _
  intro w1 hown1 hg1
  rw [made_vals] at hown1
  have HO1 := Lib.hid hown1
  have HB1 : Hid (Below w.heap.size w w1) := Lib.hid ((Below.refl _ _).grown hg1 (Nat.le_refl _) (fun _ h => by cases h))
  clear hown1 hg1
  go_wp2_with fail
  go_loopw [4] (fun i wr => LimbRel w w.heap.size ((bs.length + 3) / 4) bs i wr) (fun i _ => (intOf i + 1).toNat)
  case atStart =>
    refine ⟨bs.length, Nat.le_refl _, ?_, by rw [lst_start]; exact HO1.out, HB1.out⟩
    by_cases h0 : bs.length = 0
    · exact Or.inl ⟨h0, by congr 1; omega⟩
    · exact Or.inr ⟨bs.length - 1, by omega, by congr 1; omega⟩
  case round =>
    obtain ⟨k, hk, hki, hown, hbel⟩ := hrel
    have HO := Lib.hid hown
    have HB := Lib.hid hbel
    clear hown hbel
    rcases hki with ⟨rfl, rfl⟩ | ⟨j, rfl, rfl⟩
    · go_wp2_with fail
      go_ret
      obtain ⟨A', c, he, hnc, hcm', hcl, hrd⟩ := own_rd HO.out
      unfold maxLen at hcm'
      injection he with he1 he2 he3
      subst he1 he3
      have hl : lst bs ((bs.length + 3) / 4) 0 = dig 4294967296 (bval 256 xs) := by
        rw [lst_dig bs HXB.out (by rw [HBS.out]; exact trm_cases xs)]
        congr 1
        rw [HBS.out, trm_val]
      have hlen : (bs.length + 3) / 4 = ll (bval 256 xs) := by
        unfold ll; rw [← hl, lst_len]
      rw [hl] at hrd
      refine ⟨_, _, by rw [hlen] <;> rfl, hrd, Nat.le_refl _, by rw [← hlen]; omega, HB.out⟩
    · obtain ⟨b, off, rfl, hcell⟩ := (HRB.out.below HB.out).val (show j < bs.length by omega)
      have hcell2 := HO.out.cellAt (j / 4) (by omega)
      rw [vals_get _ _ _ (by rw [lst_len]; omega), lst_get _ _ _ _ (by omega)] at hcell2
      have hfz := HO.out.frozenAt (j / 4)
      have hst := (HO.out.stored (j / 4) (.int .u32 ((256 * limbAt bs (j + 1) (j / 4) + bs.getD j 0 : Nat) : Int))).1
      rw [vals_set, lst_step bs _ j (by omega)] at hst
      have HST := Lib.hid hst
      have hz1 : limbAt bs (j + 1) (j / 4) < 16777216 := by
        refine Nat.lt_of_lt_of_le (limb_lt bs HXB.out (j + 1) (j / 4)) ?_
        have : 256 ^ (4 * (j / 4) + 4 - max (j + 1) (4 * (j / 4))) ≤ 256 ^ 3 := Nat.pow_le_pow_right (by decide) (by omega)
        exact this
      have hy1 : bs.getD j 0 < 256 := getD_lt (by decide) HXB.out j
      clear hst
      generalize limbAt bs (j + 1) (j / 4) = z at *
      generalize bs.getD j 0 = y at *
      have q1 : IntKind.u32.wrap ((z : Int) * 256) = (z : Int) * 256 := IntWalk.u32_in _ (by omega)
      have q2 : IntKind.u32.wrap ((z : Int) * 256 + y) = (z : Int) * 256 + y := IntWalk.u32_in _ (by omega)
      have q3 : IntKind.u32.wrap (y : Int) = (y : Int) := IntWalk.u32_in _ (by omega)
      go_wp2_with fail
      have hcellD : ({ heap := wr.heap, tape := wr.tape, drawn := wr.drawn + 1, os := wr.os, output := wr.output } : World).cell? ⟨b, off + j, none⟩ = some (.int .i64 y) := hcell
      have hcellD2 : ({ heap := wr.heap, tape := wr.tape, drawn := wr.drawn + 1, os := wr.os, output := wr.output } : World).cell? ⟨w.heap.size, j / 4, none⟩ = some (.int .u32 z) := hcell2
      have r4 : j / 4 < (bs.length + 3) / 4 := by omega
      have r1 : IntKind.i64.wrap ((j : Int) / 4) = (j : Int) / 4 := IntWalk.i64_in _ (by omega)
      have r2 : 0 ≤ (j : Int) / 4 := by omega
      have r3 : ((j : Int) / 4).toNat = j / 4 := by omega
      have r5 : (j : Int) / 4 < ((bs.length : Int) + 3) / 4 := by omega
      have r6 : (j : Int) < bs.length := by omega
      go_still_tail 16, (by kernel_rfl)
      change wpList _ _ _ _ _ wr.drew
      go_wp2_with fail
      have hst2 := HST.out
      rw [show ((256 * z + y : Nat) : Int) = (z : Int) * 256 + y from by omega] at hst2
      refine ⟨⟨j, by omega, ?_, World.ownsRow.drew hst2, ?_⟩, by simp [intOf]⟩
      · by_cases hj0 : j = 0
        · exact Or.inl ⟨hj0, by subst hj0; rfl⟩
        · exact Or.inr ⟨j - 1, by omega, by congr 1; omega⟩
      · exact (HB.out.setCell (p := ⟨w.heap.size, j / 4, none⟩) (Nat.le_refl _) _).drew
end Go.Proofs.YtgckfilmhnapeaaDoor

namespace Go.Proofs.YtgckfilmhnapeaaDoor
open Go.RowKit

def FromRel (w : World) (n : Nat) (t v : Value) (wr : World) : Prop :=
  ∃ k x : Nat, x = n / 256 ^ k ∧ k ≤ 8 ∧ t = .int .u64 x ∧ wr.ownsRow w.heap.size 3 1 v ((dig 256 n).take k).length (vals .i64 ((dig 256 n).take k)) ∧ Below w.heap.size w wr ∧ (x ≠ 0 → k < (dig 256 n).length) ∧ ((dig 256 n).take k).length = min k (dig 256 n).length

theorem dig_drop (b n k : Nat) (hb : 2 ≤ b) : (dig b n).drop k = dig b (n / b ^ k) := by
  induction k generalizing n with
  | zero => simp
  | succ k ih =>
    by_cases hn : n = 0
    · subst hn; rw [dig_zero, Nat.zero_div, dig_zero]; rfl
    · rw [dig_pos hb hn, List.drop_succ_cons, ih, Nat.div_div_eq_div_mul, Nat.pow_succ, Nat.mul_comm b]
theorem dig_get (b n k : Nat) (hb : 2 ≤ b) (hx : n / b ^ k ≠ 0) : k < (dig b n).length ∧ (dig b n).getD k 0 = n / b ^ k % b := by
  have h := dig_drop b n k hb
  rw [dig_pos hb hx] at h
  have hl : k < (dig b n).length := by
    rcases Nat.lt_or_ge k (dig b n).length with g | g
    · exact g
    · rw [List.drop_eq_nil_of_le g] at h; cases h
  refine ⟨hl, ?_⟩
  rw [List.drop_eq_getElem_cons hl] at h
  injection h with h1 _
  simpa [hl] using h1
theorem dig_end (b n k : Nat) (hb : 2 ≤ b) (hx : n / b ^ k = 0) : (dig b n).length ≤ k := by
  have h := dig_drop b n k hb
  rw [hx, dig_zero] at h
  exact List.drop_eq_nil_iff.1 h

def FRel (w : World) (n : Nat) (t v : Value) (wr : World) : Prop :=
  ∃ k : Nat, k ≤ (dig 256 n).length ∧ t = .int .u64 ((n / 256 ^ k : Nat) : Int) ∧ wr.ownsRow w.heap.size 3 1 v ((dig 256 n).take k).length (vals .i64 ((dig 256 n).take k)) ∧ Below w.heap.size w wr

set_option maxRecDepth 100000 in
set_option maxHeartbeats 1000000 in
theorem from_any (n : Nat) (hn : n < 18446744073709551616) (w : World) :
    Calls Tryd.prog 85 #[.int .u64 n] w (NatPost w n) := by
  obtain ⟨i0, hi, hz0, hz1, hz2⟩ := info_parts info_int
  have hlen : (dig 256 n).length ≤ 8 := dig_len_le (by decide) n 8 hn
  go_enter Tryd.func85, Tryd.ntmps85
  go_wp2_with fail
  go_loopw [0, 3] (fun t v wr => FRel w n t v wr) (fun t _ _ => (intOf t).toNat)
  case atStart => exact ⟨0, Nat.zero_le _, by simp, ⟨rfl, .inl ⟨rfl, rfl⟩⟩, Below.refl _ _⟩
  case round =>
    obtain ⟨k, hk, rfl, hown, hbel⟩ := hrel
    have HO := Lib.hid hown
    have HB := Lib.hid hbel
    clear hown hbel
    have hxl : n / 256 ^ k < 18446744073709551616 := Nat.lt_of_le_of_lt (Nat.div_le_self _ _) hn
    by_cases hx : n / 256 ^ k = 0
    · have hk2 : k = (dig 256 n).length := by have := dig_end 256 n k (by decide) hx; omega
      subst hk2
      rw [List.take_length] at HO
      obtain ⟨A', c, rfl, hnc, hcm, hcl, hrd⟩ := own_rd HO.out
      have RD := Lib.hid hrd
      clear hrd
      unfold maxLen at hcm
      rw [hx]
      clear hx hxl
      go_wp2_with fail
      refine (limbs_any A' _ c (dig 256 n) wr rfl RD.out (dig_lt (by decide) n) hnc (by omega) (by omega)).mono ?_
      rw [bval_dig (by decide)]
      rintro e w' ⟨A2, c2, rfl, h1, h2, h3, h4⟩
      have H1 := Lib.hid h1
      have H4 := Lib.hid h4
      clear h1 h4
      go_wp2_with fail
      go_ret
      exact ⟨A2, c2, rfl, H1.out, h2, h3, HB.out.trans (H4.out.mono HB.out.size)⟩
    · obtain ⟨hkl, hkg⟩ := dig_get 256 n k (by decide) hx
      have HT := Lib.hid (take_snoc_nat (dig 256 n) k hkl)
      have HG := Lib.hid hkg
      have HD : Hid (n / 256 ^ k / 256 = n / 256 ^ (k + 1)) := Lib.hid (by rw [Nat.pow_succ, Nat.div_div_eq_div_mul])
      have htl : ((dig 256 n).take k).length ≤ 8 := by rw [List.length_take]; omega
      clear hkg
      generalize (dig 256 n).take k = pre at *
      generalize n / 256 ^ k = x at *
      have hx0 : 0 < (x : Int) := by omega
      have q1 : IntKind.i64.wrap ((x : Int) % 256) = (x : Int) % 256 := IntWalk.i64_in _ (by omega)
      clear hx
      go_wp2_with (at_builtin; refine wpList_append_own _ rfl _ _ 69 rfl w.heap.size 3 i0 (.int .i64 0) 1 8 Tryd.underlying69 hi hz0 hz1 hz2 rfl (by decide) _ _ _ rfl (HO.out.alloc _) ⟨wr.heap.size, 0, none⟩ 1 1 [.int .i64 ((x : Int) % 256)] rfl rfl ?c1 ?c2 ?c3 ?c4 ?c5 ?_)
      case c1 => exact (cell_one_new _ _ _)
      case c2 => exact one_oneCell rfl
      case c3 => unfold maxLen; omega
      case c4 => omega
      case c5 => have := HB.out.size; simp; omega
      intro v2 w2 hown2 hg2 _
      have HO2 := Lib.hid hown2
      have HB2 := Lib.hid ((HB.out.alloc HB.out.size _).grown hg2 (by have := HB.out.size; simp; omega) (fun q hq => (HO.out.lt q hq).1))
      clear hown2 hg2
      go_wp2_with fail
      go_roundw
      case rel =>
        refine ⟨k + 1, by omega, by rw [← HD.out]; go_num, ?_, HB2.out⟩
        rw [HT.out, HG.out, vals_append, vals_one, List.length_append, show ((x % 256 : Nat) : Int) = (x : Int) % 256 from by omega]
        exact HO2.out
      case measure => simp [intOf]; omega

/-- bytes of a canonical number -/
theorem bytes_can (A : Option Addr) (N cap : Nat) (w : World) (h : CanAt w A N) (hm : ll N ≤ 1048576) :
    Calls Tryd.prog 82 #[.slice A (ll N) cap] w (SlPost w .i64 (dig 256 N)) := by
  have := bytes_any A (ll N) cap (dig 4294967296 N) w rfl h (dig_lt (by decide) N) hm
  rwa [bval_dig (by decide)] at this

/-- Uint's loop: from the highest byte on -/
def UintRel (N : Nat) (x i : Value) : Prop :=
  ∃ k : Nat, k ≤ (dig 256 N).length ∧ ((k = 0 ∧ i = .int .i64 (-1)) ∨ (∃ j : Nat, k = j + 1 ∧ i = .int .i64 j)) ∧ x = .int .u64 ((N / 256 ^ k : Nat) : Int)

theorem pow_div_step (N j : Nat) : N / 256 ^ j = N / 256 ^ (j + 1) * 256 + N / 256 ^ j % 256 := by
  have := Nat.div_add_mod (N / 256 ^ j) 256
  rw [Nat.pow_succ, ← Nat.div_div_eq_div_mul]
  omega

end Go.Proofs.YtgckfilmhnapeaaDoor

namespace Go.Proofs.YtgckfilmhnapeaaDoor
open Go.RowKit

theorem power_ix0 (w : World) : (Instr.index 163 (.agg #[.int .i64 1, .int .i64 2, .int .i64 4, .int .i64 8, .int .i64 16, .int .i64 32, .int .i64 64, .int .i64 128]) (.int .i64 0)).run Tryd.prog w = .ok (.int .i64 1) w := by kernel_rfl
theorem power_ix1 (w : World) : (Instr.index 163 (.agg #[.int .i64 1, .int .i64 2, .int .i64 4, .int .i64 8, .int .i64 16, .int .i64 32, .int .i64 64, .int .i64 128]) (.int .i64 1)).run Tryd.prog w = .ok (.int .i64 2) w := by kernel_rfl
theorem power_ix2 (w : World) : (Instr.index 163 (.agg #[.int .i64 1, .int .i64 2, .int .i64 4, .int .i64 8, .int .i64 16, .int .i64 32, .int .i64 64, .int .i64 128]) (.int .i64 2)).run Tryd.prog w = .ok (.int .i64 4) w := by kernel_rfl
theorem power_ix3 (w : World) : (Instr.index 163 (.agg #[.int .i64 1, .int .i64 2, .int .i64 4, .int .i64 8, .int .i64 16, .int .i64 32, .int .i64 64, .int .i64 128]) (.int .i64 3)).run Tryd.prog w = .ok (.int .i64 8) w := by kernel_rfl
theorem power_ix4 (w : World) : (Instr.index 163 (.agg #[.int .i64 1, .int .i64 2, .int .i64 4, .int .i64 8, .int .i64 16, .int .i64 32, .int .i64 64, .int .i64 128]) (.int .i64 4)).run Tryd.prog w = .ok (.int .i64 16) w := by kernel_rfl
theorem power_ix5 (w : World) : (Instr.index 163 (.agg #[.int .i64 1, .int .i64 2, .int .i64 4, .int .i64 8, .int .i64 16, .int .i64 32, .int .i64 64, .int .i64 128]) (.int .i64 5)).run Tryd.prog w = .ok (.int .i64 32) w := by kernel_rfl
theorem power_ix6 (w : World) : (Instr.index 163 (.agg #[.int .i64 1, .int .i64 2, .int .i64 4, .int .i64 8, .int .i64 16, .int .i64 32, .int .i64 64, .int .i64 128]) (.int .i64 6)).run Tryd.prog w = .ok (.int .i64 64) w := by kernel_rfl
theorem power_ix7 (w : World) : (Instr.index 163 (.agg #[.int .i64 1, .int .i64 2, .int .i64 4, .int .i64 8, .int .i64 16, .int .i64 32, .int .i64 64, .int .i64 128]) (.int .i64 7)).run Tryd.prog w = .ok (.int .i64 128) w := by kernel_rfl
theorem power_ix (j : Nat) (hj : j < 8) (w : World) : (Instr.index 163 (.agg #[.int .i64 1, .int .i64 2, .int .i64 4, .int .i64 8, .int .i64 16, .int .i64 32, .int .i64 64, .int .i64 128]) (.int .i64 (j : Int))).run Tryd.prog w = .ok (.int .i64 ((2 ^ j : Nat) : Int)) w := by
  have : j = 0 ∨ j = 1 ∨ j = 2 ∨ j = 3 ∨ j = 4 ∨ j = 5 ∨ j = 6 ∨ j = 7 := by omega
  rcases this with rfl | rfl | rfl | rfl | rfl | rfl | rfl | rfl
  · exact power_ix0 w
  · exact power_ix1 w
  · exact power_ix2 w
  · exact power_ix3 w
  · exact power_ix4 w
  · exact power_ix5 w
  · exact power_ix6 w
  · exact power_ix7 w

theorem power_any (k : Nat) (hk : k < 8) (w : World) :
    Calls Tryd.prog 134 #[.int .i64 k] w fun e w' => e = .returned (.int .i64 ((2 ^ k : Nat) : Int)) ∧ w = w' := by
  have h := power_ix k hk w
  go_enter Tryd.func134, Tryd.ntmps134
  go_wp2
  go_ret
  exact ⟨rfl, rfl⟩

def LenRel (t L : Nat) (x n : Value) : Prop := ∃ j : Nat, j ≤ blen t ∧ x = .int .i64 ((t / 2 ^ j : Nat) : Int) ∧ n = .int .i64 ((8 * (L - 1) + j : Nat) : Int)

theorem ret_int' {k : IntKind} {a b : Int} (h : a = b) : Ending.returned (.int k a) = .returned (.int k b) := by rw [h]
theorem half_zero (t j : Nat) : t / 2 ^ j = 0 ↔ blen t ≤ j := by
  rw [blen_iff, Nat.div_eq_zero_iff]
  have := Nat.two_pow_pos j
  omega

set_option maxRecDepth 100000 in
set_option maxHeartbeats 1000000 in
theorem len_any (A : Option Addr) (N cap : Nat) (w : World) (h : CanAt w A N) (hm : ll N ≤ 1048576) :
    Calls Tryd.prog 133 #[.slice A (ll N) cap] w fun e w' => e = .returned (.int .i64 (blen N)) ∧ Below w.heap.size w w' := by
  have H := Lib.hid h
  clear h
  have hlb : (dig 256 N).length ≤ 4 * ll N := dig_len_le (by decide) N _ (by rw [show 256 ^ (4 * ll N) = 4294967296 ^ ll N from by rw [Nat.pow_mul]]; exact lt_dig_len (by decide) N)
  by_cases hN : N = 0
  · subst hN
    go_enter Tryd.func133, Tryd.ntmps133
    go_wp2_with fail
    refine (bytes_can A 0 cap w H.out hm).mono ?_
    rw [dig_zero]
    rintro e w1 ⟨A1, c1, rfl, -, -, -, h4⟩
    go_wp2_with fail
    go_ret
    exact ⟨rfl, h4⟩
  · have hL : (dig 256 N).length ≠ 0 := (dig_last (by decide) N hN).1
    have hL0 : ((((dig 256 N).length : Nat) : Int) == 0) = false := by rw [beq_eq_false_iff_ne]; omega
    go_enter Tryd.func133, Tryd.ntmps133
    go_wp2_with fail
    refine (bytes_can A N cap w H.out hm).mono ?_
    rintro e w1 ⟨A1, c1, rfl, h1, h2, h3, h4⟩
    have HT := Lib.hid (dig_top N hN).1
    have HBT := Lib.hid (blen_top N hN)
    obtain ⟨b, off, rfl, hcell⟩ := h1.val (show (dig 256 N).length - 1 < (dig 256 N).length by omega)
    rw [HT.out] at hcell
    have htl : N / 256 ^ ((dig 256 N).length - 1) < 256 := by
      rw [← HT.out, dig_getD]; exact Nat.mod_lt _ (by decide)
    have HB := Lib.hid h4
    clear h1 h4 HT
    generalize N / 256 ^ ((dig 256 N).length - 1) = t at *
    generalize (dig 256 N).length = L at *
    go_wp2_with fail
    go_loop [4, 5] (fun n x => LenRel t L x n) (fun _ x => (intOf x).toNat)
    case atStart => exact ⟨0, by omega, by simp, by congr 1; omega⟩
    case round =>
      obtain ⟨j, hj, rfl, rfl⟩ := hrel
      have hxl : t / 2 ^ j < 256 := Nat.lt_of_le_of_lt (Nat.div_le_self _ _) htl
      have hbl : blen t ≤ 8 := (blen_iff t 8).2 htl
      by_cases hz : t / 2 ^ j = 0
      · have hj2 : j = blen t := by have := (half_zero t j).1 hz; omega
        rw [hz]
        clear hz
        go_wp2_with fail
        go_ret
        exact ⟨ret_int' (by have := HBT.out; omega), HB.out⟩
      · have hj2 : j < blen t := by
          rcases Nat.lt_or_ge j (blen t) with g | g
          · exact g
          · exact absurd ((half_zero t j).2 g) hz
        have HD : Hid (t / 2 ^ j / 2 = t / 2 ^ (j + 1)) := Lib.hid (by rw [Nat.pow_succ, Nat.div_div_eq_div_mul])
        have hx0 : 0 < ((t / 2 ^ j : Nat) : Int) := Int.natCast_pos.2 (Nat.pos_of_ne_zero hz)
        clear hz
        generalize t / 2 ^ j = x at *
        go_wp2_with fail
        refine ⟨⟨j + 1, by omega, by rw [← HD.out]; go_num, by congr 1⟩, by simp [intOf]; omega⟩

def CmpRel (w2 : World) (N M : Nat) (i : Value) (wr : World) : Prop :=
  ∃ k q : Nat, wr = w2.drewN q ∧ k ≤ (dig 256 N).length ∧ ((k = 0 ∧ i = .int .i64 (-1)) ∨ (∃ j : Nat, k = j + 1 ∧ i = .int .i64 j)) ∧ N / 256 ^ k = M / 256 ^ k

set_option maxRecDepth 100000 in
set_option maxHeartbeats 2000000 in
theorem cmp_ref (A B : Option Addr) (N M c d : Nat) (w : World) (hA : CanAt w A N) (hB : CanAt w B M) (hm : ll N ≤ 1048576) (hm2 : ll M ≤ 1048576) :
    Calls Tryd.prog 120 #[.slice A (ll N) c, .slice B (ll M) d] w fun e w' => e = .returned (.int .i64 (cmpZ N M)) ∧ Below w.heap.size w w' := by
  have HA := Lib.hid hA
  have HB := Lib.hid hB
  clear hA hB
  have hb4 : ∀ X, (dig 256 X).length ≤ 4 * ll X := fun X => dig_len_le (by decide) X _ (by rw [show 256 ^ (4 * ll X) = 4294967296 ^ ll X from by rw [Nat.pow_mul]]; exact lt_dig_len (by decide) X)
  have l1 := hb4 N
  have l2 := hb4 M
  clear hb4
  go_enter Tryd.func120, Tryd.ntmps120
  go_wp2_with fail
  refine (bytes_can A N c w HA.out hm).mono ?_
  rintro e w1 ⟨A1, c1, rfl, h1, h2, h3, h4⟩
  have R1 := Lib.hid h1
  have B1 := Lib.hid h4
  clear h1 h4
  go_wp2_with fail
  refine (bytes_can B M d w1 (HB.out.below B1.out) hm2).mono ?_
  rintro e w2 ⟨A2, c2, rfl, h5, h6, h7, h8⟩
  have R2 := Lib.hid h5
  have R1' := Lib.hid (R1.out.below h8)
  have B2 : Hid (Below w.heap.size w w2) := Lib.hid (B1.out.trans (h8.mono B1.out.size))
  clear h5 h8 R1
  by_cases hlen : (dig 256 N).length = (dig 256 M).length
  · have hbl : ((((dig 256 N).length : Nat) : Int) != (((dig 256 M).length : Nat) : Int)) = false := by rw [hlen]; simp
    have HL := Lib.hid hlen
    clear hlen
    go_wp2_with fail
    go_loopw [7] (fun i wr => CmpRel w2 N M i wr) (fun i _ => (intOf i + 1).toNat)
    case atStart =>
      refine ⟨(dig 256 N).length, 0, rfl, Nat.le_refl _, ?_, ?_⟩
      · by_cases h0 : (dig 256 N).length = 0
        · exact Or.inl ⟨h0, by congr 1; omega⟩
        · exact Or.inr ⟨(dig 256 N).length - 1, by omega, by congr 1; omega⟩
      · rw [Nat.div_eq_of_lt (lt_dig_len (by decide) N), HL.out, Nat.div_eq_of_lt (lt_dig_len (by decide) M)]
    case round =>
      obtain ⟨k, q, rfl, hk, hki, heq⟩ := hrel
      rcases hki with ⟨rfl, rfl⟩ | ⟨j, rfl, rfl⟩
      · have hNM : cmpZ N M = 0 := by
          have : N = M := by simpa using heq
          unfold cmpZ; rw [this]; simp
        have HN := Lib.hid hNM
        clear hNM heq
        go_wp2_with fail
        go_ret
        exact ⟨ret_int' HN.out.symm, below_drewN' B2.out _⟩
      · have HE := Lib.hid heq
        clear heq
        obtain ⟨b, off, rfl, hc1⟩ := R1'.out.val (show j < (dig 256 N).length by omega)
        obtain ⟨b', off', rfl, hc2⟩ := R2.out.val (show j < (dig 256 M).length by have := HL.out; omega)
        rw [dig_getD] at hc1 hc2
        have hl2 : (j : Int) < (dig 256 M).length := by have := HL.out; omega
        have hl1 : (j : Int) < (dig 256 N).length := by omega
        have hl0 : 0 ≤ (j : Int) := by omega
        have hd1 := Lib.hid (digit_lt N M j HE.out)
        have hd2 := Lib.hid (digit_lt M N j HE.out.symm)
        have hd3 := Lib.hid (digit_eq N M j HE.out)
        generalize hx : N / 256 ^ j % 256 = x at *
        generalize hy : M / 256 ^ j % 256 = y at *
        clear hx hy
        rcases Nat.lt_trichotomy x y with g | g | g
        · have g1 : ((x : Int) != (y : Int)) = true := by rw [bne_iff_ne]; omega
          have HN : Hid (cmpZ N M = -1) := Lib.hid (by unfold cmpZ; rw [if_pos (hd1.out g)])
          go_wp2_with fail
          go_quiet (fail)
          go_wp2_with fail
          go_quiet (fail)
          go_wp2_with fail
          go_ret
          exact ⟨ret_int' HN.out.symm, below_drewN' (below_drewN' (below_drewN' B2.out _) _) _⟩
        · subst g
          have g1 : ((x : Int) != (x : Int)) = false := by simp
          have HN := Lib.hid (hd3.out rfl)
          go_wp2_with fail
          go_quiet (fail)
          go_wp2_with fail
          refine ⟨⟨j, _, rfl, by omega, ?_, HN.out⟩, by simp [intOf]⟩
          by_cases hj0 : j = 0
          · exact Or.inl ⟨hj0, by subst hj0; rfl⟩
          · exact Or.inr ⟨j - 1, by omega, by congr 1; omega⟩
        · have g1 : ((x : Int) != (y : Int)) = true := by rw [bne_iff_ne]; omega
          have HN : Hid (cmpZ N M = 1) := Lib.hid (by unfold cmpZ; have := hd2.out g; rw [if_neg (by omega), if_pos this])
          go_wp2_with fail
          go_quiet (fail)
          go_wp2_with fail
          go_quiet (fail)
          go_wp2_with fail
          go_ret
          exact ⟨ret_int' HN.out.symm, below_drewN' (below_drewN' (below_drewN' B2.out _) _) _⟩
  · have hbl : ((((dig 256 N).length : Nat) : Int) != (((dig 256 M).length : Nat) : Int)) = true := by rw [bne_iff_ne]; omega
    by_cases hlt : (dig 256 N).length < (dig 256 M).length
    · have HN : Hid (cmpZ N M = -1) := Lib.hid (by unfold cmpZ; rw [if_pos (len_lt_lt N M hlt)])
      clear hlen
      go_wp2_with fail
      go_ret
      exact ⟨ret_int' HN.out.symm, B2.out⟩
    · have HN : Hid (cmpZ N M = 1) := Lib.hid (by unfold cmpZ; have := len_lt_lt M N (by omega); rw [if_neg (by omega), if_pos this])
      clear hlen
      go_wp2_with fail
      go_ret
      exact ⟨ret_int' HN.out.symm, B2.out⟩

/-- a loop's own row of digits: so many of them -/
def DigRel (w : World) (S : Nat) (C : Nat → Nat) (bound : Nat) (v c i : Value) (wr : World) : Prop :=
  ∃ k : Nat, k ≤ bound ∧ i = .int .i64 k ∧ c = .int .i64 ((C k : Nat) : Int) ∧ wr.ownsRow w.heap.size 3 1 v k (vals .i64 (digs 256 S k)) ∧ Below w.heap.size w wr

theorem b4 (X : Nat) : (dig 256 X).length ≤ 4 * ll X := dig_len_le (by decide) X _ (by rw [show 256 ^ (4 * ll X) = 4294967296 ^ ll X from by rw [Nat.pow_mul]]; exact lt_dig_len (by decide) X)

end Go.Proofs.YtgckfilmhnapeaaDoor

namespace Go.Proofs.YtgckfilmhnapeaaDoor
open Go.RowKit

/-- a number and true are handed back -/
def NatPost2 (w : World) (N : Nat) (e : Ending) (w' : World) : Prop :=
  ∃ A c, e = .returned (.tuple #[.slice A (ll N) c, .bool true]) ∧ CanAt w' A N ∧ ll N ≤ c ∧ c ≤ 9223372036854775807 ∧ Below w.heap.size w w'
/-- there is none -/
def NonePost (w : World) (e : Ending) (w' : World) : Prop := e = .returned (.tuple #[.slice none 0 0, .bool false]) ∧ Below w.heap.size w w'

theorem blen_dig (N : Nat) : blen N ≤ 8 * (dig 256 N).length := by
  have h := lt_dig_len (b := 256) (by decide) N
  generalize (dig 256 N).length = L at *
  rw [blen_iff, Nat.pow_mul]
  exact h

theorem zeros_can (w : World) : CanAt w none 0 := by unfold CanAt; rw [dig_zero]; exact Rd.nil
theorem ll_zero : ll 0 = 0 := by unfold ll; rw [dig_zero]; rfl

def ShlRel (w : World) (z : Nat) (S : Nat) (C : Nat → Nat) (bound : Nat) (v c i : Value) (wr : World) : Prop :=
  ∃ k : Nat, k ≤ bound ∧ i = .int .i64 k ∧ c = .int .i64 ((C k : Nat) : Int) ∧ wr.ownsRow w.heap.size 3 1 v (z + k) (vals .i64 (List.replicate z 0 ++ digs 256 S k)) ∧ Below w.heap.size w wr

theorem shl_val (N n L : Nat) (hL : N < 256 ^ L) : bval 256 (List.replicate (n / 8) 0 ++ digs 256 (N * 2 ^ (n % 8)) (L + 1)) = N * 2 ^ n := by
  rw [bval_append, bval_replicate, List.length_replicate, Nat.zero_add, digs_all]
  · have e : 256 ^ (n / 8) = 2 ^ (8 * (n / 8)) := by rw [Nat.pow_mul]
    rw [e, Nat.mul_left_comm, ← Nat.pow_add]
    congr 2; omega
  · have h1 : 2 ^ (n % 8) ≤ 2 ^ 8 := Nat.pow_le_pow_right (by decide) (by omega)
    have h2 : N * 2 ^ (n % 8) ≤ N * 256 := Nat.mul_le_mul_left _ h1
    rw [Nat.pow_succ]
    omega

set_option maxRecDepth 100000 in
set_option maxHeartbeats 4000000 in
theorem shl_ref (A : Option Addr) (N n c : Nat) (w : World) (hA : CanAt w A N) (hm : ll N ≤ 131072) (hn : n ≤ 1048576) :
    Calls Tryd.prog 119 #[.slice A (ll N) c, .int .i64 n] w (NatPost2 w (N * 2 ^ n)) := by
  have HA := Lib.hid hA
  clear hA
  have l1 := b4 N
  obtain ⟨i0, hi, hz0, hz1, hz2⟩ := info_parts info_int
  by_cases hN : N = 0
  · subst hN
    rw [Nat.zero_mul]
    go_enter Tryd.func119, Tryd.ntmps119
    go_wp2_with fail
    refine (bytes_can A 0 c w HA.out (by omega)).mono ?_
    rw [dig_zero]
    rintro e w1 ⟨A1, c1, rfl, -, -, -, h4⟩
    go_wp2_with fail
    go_ret2
    exact ⟨none, 0, by rw [ll_zero] <;> rfl, zeros_can _, by rw [ll_zero]; exact Nat.le_refl _, by omega, h4⟩
  · have hL : (dig 256 N).length ≠ 0 := (dig_last (by decide) N hN).1
    have hL0 : ((((dig 256 N).length : Nat) : Int) == 0) = false := by rw [beq_eq_false_iff_ne]; omega
    have hbl : blen N ≤ 4194304 := Nat.le_trans (blen_dig N) (by omega)
    have hp8 : 2 ^ (n % 8) ≤ 128 := by
      have : 2 ^ (n % 8) ≤ 2 ^ 7 := Nat.pow_le_pow_right (by decide) (by omega)
      exact this
    have hp0 : 0 < 2 ^ (n % 8) := Nat.two_pow_pos _
    have HV := Lib.hid (shl_val N n (dig 256 N).length (lt_dig_len (by decide) N))
    go_enter Tryd.func119, Tryd.ntmps119
    go_wp2_with fail
    refine (bytes_can A N c w HA.out (by omega)).mono ?_
    rintro e w1 ⟨A1, c1, rfl, h1, h2, h3, h4⟩
    have R1 := Lib.hid h1
    have B1 := Lib.hid h4
    clear h1 h4
    go_wp2_with fail
    refine (len_any A N c w1 (HA.out.below B1.out) (by omega)).mono ?_
    rintro e w2 ⟨rfl, h5⟩
    have R2 := Lib.hid (R1.out.below h5)
    have B2 : Hid (Below w.heap.size w w2) := Lib.hid (B1.out.trans (h5.mono B1.out.size))
    clear h5
    go_wp2_with (at_make; refine wpList_make_full _ rfl _ _ 69 rfl w2.heap.size 3 i0 (.int .i64 0) 1 Tryd.underlying69 hi hz0 hz1 _ _ _ _ (n / 8) rfl rfl ?c0 ?c1 ?c2 ?c3 ?c4 ?_)
    case c0 => omega
    case c1 => omega
    case c2 => rw [hz2]; omega
    case c3 => unfold maxLen; omega
    case c4 => exact Nat.le_refl _
    intro w3 hown3 hg3
    rw [made_vals] at hown3
    have HO3 := Lib.hid hown3
    have HB3 : Hid (Below w2.heap.size w2 w3) := Lib.hid ((Below.refl _ _).grown hg3 (Nat.le_refl _) (fun _ h => by cases h))
    clear hown3 hg3
    go_wp2_with fail
    go_loopw [7, 8, 9] (fun v c i wr => ShlRel w2 (n / 8) (N * 2 ^ (n % 8)) (pcarry N (2 ^ (n % 8))) (dig 256 N).length v c i wr) (fun _ _ i _ => (dig 256 N).length - (intOf i).toNat)
    case atStart => exact ⟨0, Nat.zero_le _, rfl, by rw [pcarry_zero]; rfl, by rw [digs_zero, List.append_nil]; exact HO3.out, HB3.out⟩
    case round =>
      obtain ⟨k, hk, rfl, rfl, hown, hbel⟩ := hrel
      have HO := Lib.hid hown
      have HB := Lib.hid hbel
      clear hown hbel
      have hcl := pcarry_lt N (2 ^ (n % 8)) k hp0
      by_cases hlt : k < (dig 256 N).length
      · obtain ⟨b, off, rfl, hcell⟩ := (R2.out.below HB.out).val hlt
        rw [dig_getD] at hcell
        obtain ⟨st1, st2⟩ := pcarry_step N (2 ^ (n % 8)) k
        have hdg := digs_succ 256 (N * 2 ^ (n % 8)) k
        rw [← st1] at hdg
        have hx1 : N / 256 ^ k % 256 < 256 := Nat.mod_lt _ (by decide)
        have PW : ∀ q, Calls Tryd.prog 134 #[.int .i64 ((n : Int) % 8)] (wr.drewN q) fun e w' => e = .returned (.int .i64 ((2 ^ (n % 8) : Nat) : Int)) ∧ wr.drewN q = w' := by
          intro q
          have := power_any (n % 8) (by omega) (wr.drewN q)
          rwa [show (((n % 8 : Nat)) : Int) = (n : Int) % 8 from by omega] at this
        have HPW := Lib.hid PW
        have HDG := Lib.hid hdg
        have HST := Lib.hid st2
        clear PW hdg st1 st2
        have hmul : N / 256 ^ k % 256 * 2 ^ (n % 8) ≤ 255 * 128 := Nat.mul_le_mul (by omega) hp8
        generalize hX : N / 256 ^ k % 256 = x at *
        generalize hP : 2 ^ (n % 8) = p at *
        generalize hC : pcarry N p k = cr at *
        have e1 : ((x * p : Nat) : Int) = (x : Int) * p := by push_cast; rfl
        have r1 : IntKind.i64.wrap ((x : Int) * p) = (x : Int) * p := IntWalk.i64_in _ (by omega)
        have r2 : IntKind.i64.wrap ((x : Int) * p + cr) = (x : Int) * p + cr := IntWalk.i64_in _ (by omega)
        have r3 : (k : Int) < (dig 256 N).length := by omega
        have r4 : 0 ≤ (k : Int) := by omega
        have r5 : (n : Int).tmod 8 = (n : Int) % 8 := by rw [Int.tmod_eq_emod_of_nonneg (by omega)]
        have r6 : IntKind.i64.wrap ((n : Int) % 8) = (n : Int) % 8 := IntWalk.i64_in _ (by omega)
        have E1 := Lib.hid e1
        clear e1 hX hP hC
        have hs0 : 0 ≤ (x : Int) * p + cr := by have := E1.out; omega
        have hs1 : (x : Int) * p + cr ≤ 40000 := by have := E1.out; omega
        go_wp2_with fail
        go_quiet ((go_at_call 134; exact quiet_same (HPW.out _)))
        go_wp2_with (at_builtin; refine wpList_append_own _ rfl _ _ 69 rfl w2.heap.size 3 i0 (.int .i64 0) 1 8 Tryd.underlying69 hi hz0 hz1 hz2 rfl (by decide) _ _ _ rfl (HO.out.alloc _) ⟨wr.heap.size, 0, none⟩ 1 1 [.int .i64 (((x : Int) * p + cr) % 256)] rfl rfl ?c1 ?c2 ?c3 ?c4 ?c5 ?_)
        case c1 => exact (cell_one_new _ _ _)
        case c2 => exact one_oneCell rfl
        case c3 => unfold maxLen; omega
        case c4 => omega
        case c5 => have := HB.out.size; simp; omega
        intro v2 w4 hown2 hg2 _
        have HO2 := Lib.hid hown2
        have HB4 := Lib.hid (((below_drewN' HB.out _).alloc HB.out.size _).grown hg2 (by have := HB.out.size; simp; omega) (fun q hq => (HO.out.lt q hq).1))
        clear hown2 hg2
        go_wp2_with fail
        go_roundw
        case rel =>
          have e2 : (((x * p + cr : Nat)) : Int) = (x : Int) * p + cr := by have := E1.out; omega
          refine ⟨k + 1, by omega, by go_num, ?_, ?_, HB4.out⟩
          · rw [← HST.out]
            have : (((x * p + cr) / 256 : Nat) : Int) = ((x : Int) * p + cr) / 256 := by rw [← e2]; omega
            rw [this]
          · rw [HDG.out, ← List.append_assoc, vals_append, vals_one, show ((((x * p + cr) % 256 : Nat)) : Int) = ((x : Int) * p + cr) % 256 from by rw [← e2]; omega]
            exact HO2.out
        case measure => simp [intOf]; omega
      · obtain rfl : k = (dig 256 N).length := by omega
        have hd : digs 256 (N * 2 ^ (n % 8)) ((dig 256 N).length + 1) = digs 256 (N * 2 ^ (n % 8)) (dig 256 N).length ++ [pcarry N (2 ^ (n % 8)) (dig 256 N).length] := by
          have hm1 : pcarry N (2 ^ (n % 8)) (dig 256 N).length % 256 = pcarry N (2 ^ (n % 8)) (dig 256 N).length := by
            generalize 2 ^ (n % 8) = p at *
            exact Nat.mod_eq_of_lt (by omega)
          rw [digs_succ, pcarry_eq, Nat.div_eq_of_lt (lt_dig_len (by decide) N), Nat.zero_mul, Nat.zero_add, hm1]
        have HDD := Lib.hid hd
        clear hd hlt
        generalize pcarry N (2 ^ (n % 8)) (dig 256 N).length = cr at *
        go_wp2_with (at_builtin; refine wpList_append_own _ rfl _ _ 69 rfl w2.heap.size 3 i0 (.int .i64 0) 1 8 Tryd.underlying69 hi hz0 hz1 hz2 rfl (by decide) _ _ _ rfl (HO.out.alloc _) ⟨wr.heap.size, 0, none⟩ 1 1 [.int .i64 cr] rfl rfl ?c1 ?c2 ?c3 ?c4 ?c5 ?_)
        case c1 => exact (cell_one_new _ _ _)
        case c2 => exact one_oneCell rfl
        case c3 => unfold maxLen; omega
        case c4 => omega
        case c5 => have := HB.out.size; simp; omega
        intro v2 w4 hown2 hg2 _
        have hown3 : w4.ownsRow w2.heap.size 3 1 v2 (n / 8 + (dig 256 N).length + 1) (vals .i64 (List.replicate (n / 8) 0 ++ digs 256 (N * 2 ^ (n % 8)) ((dig 256 N).length + 1))) := by
          rw [HDD.out, ← List.append_assoc, vals_append, vals_one]; exact hown2
        have HB4 := Lib.hid ((HB.out.alloc HB.out.size _).grown hg2 (by have := HB.out.size; simp; omega) (fun q hq => (HO.out.lt q hq).1))
        obtain ⟨A', c', rfl, hnc, hcm, hcl', hrd⟩ := own_rd hown3
        have RD := Lib.hid hrd
        clear hrd hown2 hg2 hown3
        unfold maxLen at hcm
        go_wp2_with fail
        refine (limbs_any A' _ c' (List.replicate (n / 8) 0 ++ digs 256 (N * 2 ^ (n % 8)) ((dig 256 N).length + 1)) w4 (by rw [List.length_append, List.length_replicate, digs_len]; omega) RD.out ?_ hnc (by omega) (by omega)).mono ?_
        · intro x hx
          rcases List.mem_append.1 hx with h | h
          · rw [List.eq_of_mem_replicate h]; decide
          · exact digs_lt _ _ _ (by decide) x h
        rw [HV.out]
        rintro e w' ⟨A3, c3, rfl, h1, h2, h3, h4⟩
        have H1 := Lib.hid h1
        have H4 := Lib.hid h4
        clear h1 h4
        go_wp2_with fail
        go_ret2
        exact ⟨A3, c3, rfl, H1.out, h2, h3, (B2.out.trans (HB4.out.mono B2.out.size)).trans (H4.out.mono (B2.out.trans (HB4.out.mono B2.out.size)).size)⟩
end Go.Proofs.YtgckfilmhnapeaaDoor
