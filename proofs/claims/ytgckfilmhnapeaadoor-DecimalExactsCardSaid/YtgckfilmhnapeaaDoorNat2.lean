/- Contracts of crucibleref01, second part: From, Uint, Len, Cmp. -/
import Derived.Test.YtgckfilmhnapeaaDoorNat
namespace Go.Proofs.YtgckfilmhnapeaaDoor
open Go.RowKit

def FromRel (w : World) (n : Nat) (t v : Value) (wr : World) : Prop :=
  ∃ k x : Nat, x = n / 256 ^ k ∧ k ≤ 8 ∧ t = .int .u64 x ∧ wr.ownsRow w.heap.size 3 1 v ((dig 256 n).take k).length (vals .i64 ((dig 256 n).take k)) ∧ Below w.heap.size w wr ∧ (x ≠ 0 → k < (dig 256 n).length) ∧ ((dig 256 n).take k).length = min k (dig 256 n).length

theorem dig_drop (b n k : Nat) (hb : 2 ≤ b) : (dig b n).drop k = dig b (n / b ^ k) := by
  induction k generalizing n with
  | zero => simp
  | succ k ih =>
    by_cases hn : n = 0
    · subst hn; rw [dig_zero, Nat.zero_div, dig_zero]; rfl
    · rw [dig_pos hb hn, List.drop_succ_cons, ih, Nat.div_div_eq_div_mul, Nat.pow_succ, Nat.mul_comm b]
theorem dig_get (b n k : Nat) (hb : 2 ≤ b) (hx : n / b ^ k ≠ 0) : k < (dig b n).length ∧ (dig b n).getD k 0 = n / b ^ k % b := by
  have h := dig_drop b n k hb
  rw [dig_pos hb hx] at h
  have hl : k < (dig b n).length := by
    rcases Nat.lt_or_ge k (dig b n).length with g | g
    · exact g
    · rw [List.drop_eq_nil_of_le g] at h; cases h
  refine ⟨hl, ?_⟩
  rw [List.drop_eq_getElem_cons hl] at h
  injection h with h1 _
  simpa [hl] using h1
theorem dig_end (b n k : Nat) (hb : 2 ≤ b) (hx : n / b ^ k = 0) : (dig b n).length ≤ k := by
  have h := dig_drop b n k hb
  rw [hx, dig_zero] at h
  exact List.drop_eq_nil_iff.1 h

def FRel (w : World) (n : Nat) (t v : Value) (wr : World) : Prop :=
  ∃ k : Nat, k ≤ (dig 256 n).length ∧ t = .int .u64 ((n / 256 ^ k : Nat) : Int) ∧ wr.ownsRow w.heap.size 3 1 v ((dig 256 n).take k).length (vals .i64 ((dig 256 n).take k)) ∧ Below w.heap.size w wr

set_option maxRecDepth 100000 in
set_option maxHeartbeats 1000000 in
theorem from_any (n : Nat) (hn : n < 18446744073709551616) (w : World) :
    Calls Tryd.prog 85 #[.int .u64 n] w (NatPost w n) := by
  obtain ⟨i0, hi, hz0, hz1, hz2⟩ := info_parts info_int
  have hlen : (dig 256 n).length ≤ 8 := dig_len_le (by decide) n 8 hn
  go_enter Tryd.func85, Tryd.ntmps85
  go_wp2_with fail
  go_loopw [0, 3] (fun t v wr => FRel w n t v wr) (fun t _ _ => (intOf t).toNat)
  case atStart => exact ⟨0, Nat.zero_le _, by simp, ⟨rfl, .inl ⟨rfl, rfl⟩⟩, Below.refl _ _⟩
  case round =>
    obtain ⟨k, hk, rfl, hown, hbel⟩ := hrel
    have HO := Lib.hid hown
    have HB := Lib.hid hbel
    clear hown hbel
    have hxl : n / 256 ^ k < 18446744073709551616 := Nat.lt_of_le_of_lt (Nat.div_le_self _ _) hn
    by_cases hx : n / 256 ^ k = 0
    · have hk2 : k = (dig 256 n).length := by have := dig_end 256 n k (by decide) hx; omega
      subst hk2
      rw [List.take_length] at HO
      obtain ⟨A', c, rfl, hnc, hcm, hcl, hrd⟩ := own_rd HO.out
      have RD := Lib.hid hrd
      clear hrd
      unfold maxLen at hcm
      rw [hx]
      clear hx hxl
      go_wp2_with fail
      refine (limbs_any A' _ c (dig 256 n) wr rfl RD.out (dig_lt (by decide) n) hnc (by omega) (by omega)).mono ?_
      rw [bval_dig (by decide)]
      rintro e w' ⟨A2, c2, rfl, h1, h2, h3, h4⟩
      have H1 := Lib.hid h1
      have H4 := Lib.hid h4
      clear h1 h4
      go_wp2_with fail
      go_ret
      exact ⟨A2, c2, rfl, H1.out, h2, h3, HB.out.trans (H4.out.mono HB.out.size)⟩
    · obtain ⟨hkl, hkg⟩ := dig_get 256 n k (by decide) hx
      have HT := Lib.hid (take_snoc_nat (dig 256 n) k hkl)
      have HG := Lib.hid hkg
      have HD : Hid (n / 256 ^ k / 256 = n / 256 ^ (k + 1)) := Lib.hid (by rw [Nat.pow_succ, Nat.div_div_eq_div_mul])
      have htl : ((dig 256 n).take k).length ≤ 8 := by rw [List.length_take]; omega
      clear hkg
      generalize (dig 256 n).take k = pre at *
      generalize n / 256 ^ k = x at *
      have hx0 : 0 < (x : Int) := by omega
      have q1 : IntKind.i64.wrap ((x : Int) % 256) = (x : Int) % 256 := IntWalk.i64_in _ (by omega)
      clear hx
      go_wp2_with (at_builtin; refine wpList_append_own _ rfl _ _ 69 rfl w.heap.size 3 i0 (.int .i64 0) 1 8 Tryd.underlying69 hi hz0 hz1 hz2 rfl (by decide) _ _ _ rfl (HO.out.alloc _) ⟨wr.heap.size, 0, none⟩ 1 1 [.int .i64 ((x : Int) % 256)] rfl rfl ?c1 ?c2 ?c3 ?c4 ?c5 ?_)
      case c1 => exact (cell_one_new _ _ _)
      case c2 => exact one_oneCell rfl
      case c3 => unfold maxLen; omega
      case c4 => omega
      case c5 => have := HB.out.size; simp; omega
      intro v2 w2 hown2 hg2 _
      have HO2 := Lib.hid hown2
      have HB2 := Lib.hid ((HB.out.alloc HB.out.size _).grown hg2 (by have := HB.out.size; simp; omega) (fun q hq => (HO.out.lt q hq).1))
      clear hown2 hg2
      go_wp2_with fail
      go_roundw
      case rel =>
        refine ⟨k + 1, by omega, by rw [← HD.out]; go_num, ?_, HB2.out⟩
        rw [HT.out, HG.out, vals_append, vals_one, List.length_append, show ((x % 256 : Nat) : Int) = (x : Int) % 256 from by omega]
        exact HO2.out
      case measure => simp [intOf]; omega

/-- bytes of a canonical number -/
theorem bytes_can (A : Option Addr) (N cap : Nat) (w : World) (h : CanAt w A N) (hm : ll N ≤ 1048576) :
    Calls Tryd.prog 82 #[.slice A (ll N) cap] w (SlPost w .i64 (dig 256 N)) := by
  have := bytes_any A (ll N) cap (dig 4294967296 N) w rfl h (dig_lt (by decide) N) hm
  rwa [bval_dig (by decide)] at this

/-- Uint's loop: from the highest byte on -/
def UintRel (N : Nat) (x i : Value) : Prop :=
  ∃ k : Nat, k ≤ (dig 256 N).length ∧ ((k = 0 ∧ i = .int .i64 (-1)) ∨ (∃ j : Nat, k = j + 1 ∧ i = .int .i64 j)) ∧ x = .int .u64 ((N / 256 ^ k : Nat) : Int)

theorem pow_div_step (N j : Nat) : N / 256 ^ j = N / 256 ^ (j + 1) * 256 + N / 256 ^ j % 256 := by
  have := Nat.div_add_mod (N / 256 ^ j) 256
  rw [Nat.pow_succ, ← Nat.div_div_eq_div_mul]
  omega

end Go.Proofs.YtgckfilmhnapeaaDoor
